/-
  Contracts of functions and laws of the layer over the walk.
-/
import Derived.Test.YtcpocmbgibafdaaHlA
import Derived.ChangeKeysEq
import Derived.Orders
namespace Go.Hl
set_option linter.unusedVariables false
set_option linter.unusedSimpArgs false

/-- A struct's cells with one part written in. -/
def setC : List HVal → Nat → List HVal → List HVal
  | es, _, [] => es
  | es, off, v :: vs => setC (es.set off v) (off + 1) vs

theorem setC_length : ∀ (vs es : List HVal) (off : Nat), (setC es off vs).length = es.length
  | [], _, _ => rfl
  | v :: vs, es, off => by simp [setC, setC_length vs]

theorem setC_get : ∀ (vs es : List HVal) (off k : Nat), off + vs.length ≤ es.length → (setC es off vs)[k]? = if off ≤ k ∧ k < off + vs.length then vs[k - off]? else es[k]?
  | [], es, off, k, _ => by
    rw [if_neg]
    · rfl
    · simp only [List.length_nil]; omega
  | v :: vs, es, off, k, h => by
    simp only [List.length_cons] at h
    rw [setC, setC_get vs _ _ _ (by simp; omega)]
    by_cases e : k = off
    · subst e
      rw [if_neg (by omega), if_pos (by simp), List.getElem?_set_self (by omega)]
      try simp
    · rw [List.getElem?_set_ne (Ne.symm e)]
      by_cases h1 : off + 1 ≤ k ∧ k < off + 1 + vs.length
      · rw [if_pos h1, if_pos (by simp; omega), show k - off = (k - (off + 1)) + 1 by omega]; simp
      · rw [if_neg h1, if_neg (by simp; omega)]

def fillC (place : Nat → Option (Nat × Nat)) (es : List HVal) : List (Nat × HVal) → List HVal
  | [] => es
  | (i, v) :: r => match place i with
    | some (off, _) => fillC place (setC es off v.cells) r
    | none => es

def fillCOK (place : Nat → Option (Nat × Nat)) (n : Nat) : List (Nat × HVal) → Bool
  | [] => true
  | (i, v) :: r => (match place i with
    | some (off, sz) => decide (v.cells.length = sz) && decide (off + sz ≤ n)
    | none => false) && v.cells.all HVal.flat && fillCOK place n r

theorem alen (a : Array Value) : a.toList.length = a.size := rfl

theorem run_fillC {E : Env} {h : Heap} {w : World} {ρ : Operand → HVal} {place : Nat → Option (Nat × Nat)} {ρc : Operand → Value} (hρ : ∀ x, Rep E h w (ρ x) (ρc x)) : ∀ (ps : List (Nat × Operand)) (es : List HVal) (cs : Array Value), fillCOK place es.length (ps.map fun p => (p.1, ρ p.2)) = true →
    RepL E h w es cs.toList → ∃ cs', Instr.fill place cs (ps.map fun p => (p.1, ρc p.2)) = some cs' ∧ RepL E h w (fillC place es (ps.map fun p => (p.1, ρ p.2))) cs'.toList
  | [], es, cs, _, hL => ⟨cs, rfl, hL⟩
  | (i, x) :: ps, es, cs, hf, hL => by
    simp only [List.map_cons, fillCOK, Bool.and_eq_true] at hf
    obtain ⟨⟨hp, hfl⟩, hf⟩ := hf
    cases hpl : place i with
    | none => simp [hpl] at hp
    | some os =>
      obtain ⟨off, sz⟩ := os
      simp only [hpl, Bool.and_eq_true, decide_eq_true_eq] at hp
      obtain ⟨hsz, hfit⟩ := hp
      obtain ⟨hcL, hc1⟩ := (hρ x).cellsL hfl
      have hvs : (ρc x).cells.size = sz := by have := hcL.length; simp at this; omega
      have hcsz : cs.size = es.length := by have := hL.length; simpa using this.symm
      have hget := fun k => zipIdx_fold_get (ρc x).cells off cs k (by omega)
      have hsize := zipIdx_fold_size (ρc x).cells off cs
      obtain ⟨cs', r1, r2⟩ := run_fillC hρ ps (setC es off (ρ x).cells) ((ρc x).cells.zipIdx.foldl (fun cs (cj : Value × Nat) => cs.setIfInBounds (off + cj.2) cj.1) cs) (by rw [setC_length]; exact hf) (by
        refine RepL.mk (by rw [setC_length, alen, hsize, hcsz]) ?_
        intro k y v hy hv
        rw [setC_get _ _ _ _ (by omega)] at hy
        rw [Array.getElem?_toList, hget k] at hv
        by_cases hr : off ≤ k ∧ k < off + (ρ x).cells.length
        · rw [if_pos hr] at hy
          rw [if_pos (by omega)] at hv
          exact hcL.get _ _ _ hy (by simpa using hv)
        · rw [if_neg hr] at hy
          rw [if_neg (by omega)] at hv
          exact hL.get _ _ _ hy (by simpa using hv))
      refine ⟨cs', ?_, ?_⟩
      · simp only [List.map_cons, Instr.fill, hpl, hvs]
        rw [if_neg (by simp; omega)]
        exact r1
      · simpa only [List.map_cons, fillC, hpl] using r2

/-- A struct's or an array's places. -/
def places (P : Program) : TyD → Nat → Option (Nat × Nat)
  | .st fs, i => (fs[i]?).map fun f => (f.1, f.2.2)
  | .arr _ e, i => match tyR P e with | some re => some (i * re.sz, re.sz) | none => none
  | _, _ => none

def placesOK (P : Program) : TyD → Bool
  | .st _ => true
  | .arr _ e => (tyR P e).isSome
  | _ => false

theorem opw_build {P : Program} {o : Oper} {ρ : Operand → HVal} {h : Heap} {K : HVal → Heap → Prop} (t : TypeId) (ps : Array (Nat × Operand)) (r : TyR) (ho : o.op = .build t ps) (ht : tyR P t = some r) (hd : placesOK P r.d = true) (hz : r.zero ≠ [])
    (hf : fillCOK (places P r.d) r.zero.length (ps.toList.map fun p => (p.1, ρ p.2)) = true) (hk : K (.agg (fillC (places P r.d) r.zero (ps.toList.map fun p => (p.1, ρ p.2)))) h) : OpW P o ρ h K :=
  opw_of_value hk fun E w ρc R hρ => by
    obtain ⟨u, hu, hud, hrun⟩ := run_underlying' (w := w) ht
    obtain ⟨z, hzr, hzz⟩ := run_zero' (w := w) ht hz
    have hL : RepL E h w r.zero z.cells.toList := by rw [← hzz]; exact repL_ofValue E h w _
    obtain ⟨cs, h1, h2⟩ := run_fillC hρ ps.toList r.zero z.cells hf hL
    refine ⟨.agg cs, ?_, by have := Rep.agg (E := E) (h := h) (w := w) _ cs.toList h2.length h2.get; simpa using this⟩
    have hmap : (ps.map fun (i, x) => (i, ρc x)).toList = ps.toList.map fun p => (p.1, ρc p.2) := by simp
    cases hdd : r.d with
    | st fs =>
      obtain ⟨gs, rfl, hall, hgs⟩ := tyD_st (hud.trans hdd)
      have hpl : ∀ i : Nat, ((gs.toList.map fun f => (f.offset, P.cellsOf f.type)).toArray)[i]? = places P r.d i := by
        intro i
        rw [hdd]
        simp only [places, ← hgs, List.getElem?_toArray, List.getElem?_map, Option.map_map]
        rfl
      have hm : (gs.mapM fun f => (do pure (f.offset, ← sizeOf f.type) : Sem (Nat × Nat))).run P w = .ok (gs.toList.map fun f => (f.offset, P.cellsOf f.type)).toArray w := by
        rw [← Array.toArray_toList (xs := gs), List.mapM_toArray]
        have key : ∀ l : List Field, l.all (fun f => (P.info? f.type).isSome) = true → (l.mapM fun f => (do pure (f.offset, ← sizeOf f.type) : Sem (Nat × Nat))).run P w = .ok (l.map fun f => (f.offset, P.cellsOf f.type)) w := by
          intro l
          induction l with
          | nil => intro _; simp
          | cons f l ih =>
            intro hl
            simp only [List.all_cons, Bool.and_eq_true] at hl
            simp only [List.mapM_cons, Sem.run_bind, run_size_field hl.1, Result.andThen_ok, Sem.run_pure, ih hl.2, List.map_cons]
        have hk' := key _ hall
        simp only [bind_pure_comp] at hk' ⊢
        simp [hk']
      simp only [execOp, ho, Instr.build, Sem.run_bind, hzr, Result.andThen_ok, hrun, hm, hmap]
      have : (fun x => (gs.toList.map fun f => (f.offset, P.cellsOf f.type)).toArray[x]?) = places P r.d := funext hpl
      rw [this, h1]
      simp
    | arr n e =>
      obtain rfl := tyD_arr (hud.trans hdd)
      rw [hdd] at hd
      obtain ⟨re, hre⟩ := Option.isSome_iff_exists.1 hd
      have hsize := run_sizeOf' (w := w) hre
      simp only [execOp, ho, Instr.build, Sem.run_bind, hzr, Result.andThen_ok, hrun, hsize, hmap]
      have : (fun i => some (i * re.sz, re.sz)) = places P r.d := by funext i; rw [hdd]; simp [places, hre]
      rw [this, h1]
      simp
    | _ => rw [hdd] at hd; simp [placesOK] at hd
section
variable {P : Program} {o : Oper} {ρ : Operand → HVal} {h : Heap} {K : HVal → Heap → Prop}

/-- s[l:m:M]. -/
theorem opw_slice3_sl (t et : TypeId) (x : Operand) (lo hi : Option Operand) (mx : Operand) (r re : TyR) (sz : Nat) (es : List (List HVal)) (tg : Bool) (l m M : Int) (ho : o.op = .slice t x lo hi (some mx)) (ht : tyR P t = some r) (hd : r.d = .slice et)
    (he : tyR P et = some re) (hsz : re.sz = sz) (hx : ρ x = .sl sz es tg) (hhi : hi.isSome = true)
    (hl : bndH 0 (lo.map ρ) = some l) (hh : bndH es.length (hi.map ρ) = some m) (hM : bndH 0 (some (ρ mx)) = some M) (h0 : 0 ≤ l) (h1 : l ≤ m) (h2 : m ≤ M) (h3 : M ≤ es.length)
    (hk : K (.sl sz ((es.take m.toNat).drop l.toNat) (decide (M = m))) h) : OpW P o ρ h K :=
  opw_of_value hk fun E w ρc R hρ => by
    have hr := hρ x
    rw [hx] at hr
    obtain ⟨u, hu, hud, hrun⟩ := run_underlying' (w := w) ht
    obtain rfl := tyD_slice (hud.trans hd)
    have hsize := run_sizeOf' (w := w) he
    have hml : maxLen = 9223372036854775807 := rfl
    have key : ∀ (a : Option Addr) (cap : Nat), ρc x = .slice a es.length cap → es.length ≤ cap →
        (execOp ρc o).run P w = .ok (.value (.slice (if M.toNat = l.toNat then a else a.map (·.add (l.toNat * sz))) (m.toNat - l.toNat) (M.toNat - l.toNat))) w := by
      intro a cap hv hc
      have hM' : bndH cap (some (ρ mx)) = some M := by
        generalize ρ mx = z at hM
        cases z <;> simp [bndH] at hM ⊢
        exact hM
      have hb := run_bounds (P := P) R hρ true es.length cap lo hi (some mx) l m M hl hh hM' (fun _ => hhi) h0 h1 h2 (by omega)
      simp only [Option.map_some] at hb
      simp [execOp, ho, Instr.sliceAt, Instr.slice, hrun, hv, hb, hsize, hsz]
    have htk : ∀ i j y, at2 ((es.take m.toNat).drop l.toNat) i j = some y → at2 es (l.toNat + i) j = some y := by
      intro i j y hy
      obtain ⟨e, h1, h2⟩ := at2_some hy
      rw [List.getElem?_drop] at h1
      have hlt : l.toNat + i < m.toNat := by have := (List.getElem?_eq_some_iff.1 h1).1; simp at this; omega
      rw [List.getElem?_take_of_lt hlt] at h1
      simp [at2, h1, h2]
    cases hv : ρc x <;> rw [hv] at hr <;> try (cases hr; done)
    cases hr with
    | sl0 _ _ _ _ htt hmax ha =>
      have hl0 : l = 0 := by simp at h3; omega
      have hm0 : m = 0 := by simp at h3; omega
      have hM0 : M = 0 := by simp at h3; omega
      subst hl0 hm0 hM0
      refine ⟨_, key _ _ (by simpa using hv) (by simp), ?_⟩
      simp only [Int.toNat_zero, List.take_zero, List.drop_nil, Nat.sub_zero, Nat.zero_mul, Nat.sub_self, List.length_nil]
      exact .sl0 sz _ _ _ (fun _ => rfl) (by omega) trivial
    | sl _ _ _ b o' cap cv hI hcap hmax htt hs hc h1' hrr =>
      rename_i cap
      refine ⟨_, key _ cap hv hcap, ?_⟩
      have hlen : ((es.take m.toNat).drop l.toNat).length = m.toNat - l.toNat := by simp; omega
      by_cases hemp : m.toNat = l.toNat
      · have e1 : (es.take m.toNat).drop l.toNat = [] := List.drop_eq_nil_of_le (by simp; omega)
        rw [e1, hemp, Nat.sub_self]
        refine .sl0 sz _ _ _ (fun e => ?_) (by omega) trivial
        simp at e; omega
      · have hne : ¬ M.toNat = l.toNat := by omega
        rw [if_neg hne, ← hlen]
        simp only [Option.map_some, addr_add]
        refine .sl sz _ _ b (o' + l.toNat * sz) (M.toNat - l.toNat) (fun i j => cv (l.toNat + i) j) hI (by omega) (by omega) (fun e => ?_) ?_ ?_ ?_ ?_
        · simp at e; omega
        · intro e he
          exact hs e (List.mem_of_mem_take (List.mem_of_mem_drop he))
        · intro i j y hy
          rw [← hc _ _ _ (htk i j y hy)]; congr 2; rw [Nat.add_mul]; omega
        · intro i j y hy; exact h1' _ _ _ (htk i j y hy)
        · intro i j y hy; exact hrr _ _ _ (htk i j y hy)
/-- A slice of an own slice. -/
theorem opw_slice_os (t et : TypeId) (x : Operand) (lo hi : Option Operand) (r re : TyR) (n sz i len : Nat) (l m : Int) (ho : o.op = .slice t x lo hi none) (ht : tyR P t = some r) (hd : r.d = .slice et)
    (he : tyR P et = some re) (hsz : re.sz = sz) (hx : ρ x = .os n sz i len)
    (hl : bndH 0 (lo.map ρ) = some l) (hh : bndH len (hi.map ρ) = some m) (h0 : 0 ≤ l) (h1 : l ≤ m ∧ l < len) (h2 : m ≤ len)
    (hk : K (.os n sz (i + l.toNat) (m.toNat - l.toNat)) h) : OpW P o ρ h K :=
  opw_of_value hk fun E w ρc R hρ => by
    have hr := hρ x
    rw [hx] at hr
    obtain ⟨u, hu, hud, hrun⟩ := run_underlying' (w := w) ht
    obtain rfl := tyD_slice (hud.trans hd)
    have hsize := run_sizeOf' (w := w) he
    have hml : maxLen = 9223372036854775807 := rfl
    have key : ∀ (a : Option Addr) (cap : Nat), ρc x = .slice a len cap → len ≤ cap →
        (execOp ρc o).run P w = .ok (.value (.slice (if cap = l.toNat then a else a.map (·.add (l.toNat * sz))) (m.toNat - l.toNat) (cap - l.toNat))) w := by
      intro a cap hv hc
      have hb := run_bounds (P := P) R hρ true len cap lo hi none l m cap hl hh rfl (by simp) h0 (by omega) (by omega) (by omega)
      simp only [Option.map_none] at hb
      have e : ((cap : Int)).toNat = cap := by omega
      simp [execOp, ho, Instr.sliceAt, Instr.slice, hrun, hv, hb, hsize, hsz, e]
    cases hv : ρc x <;> rw [hv] at hr <;> try (cases hr; done)
    cases hr with
    | os0 _ _ hd' hl' => simp at h2; omega
    | os _ _ _ _ b o' cap t' mm hd' hl' hlc hmax hsh hm =>
      refine ⟨_, key _ _ hv hlc, ?_⟩
      rename_i cap
      rw [if_neg (by omega)]
      simp only [Option.map_some, addr_add]
      have e : o' + i * sz + l.toNat * sz = o' + (i + l.toNat) * sz := by rw [Nat.add_mul]; omega
      rw [e]
      refine .os n sz (i + l.toNat) (m.toNat - l.toNat) b o' (cap - l.toNat) t' mm hd' hl' (by omega) (by omega) hsh ?_
      rw [show i + l.toNat + (cap - l.toNat) = i + cap by omega]
      exact hm
/-- .. and nothing of it. -/
theorem opw_slice_os0 (t et : TypeId) (x : Operand) (lo hi : Option Operand) (r re : TyR) (n sz i len : Nat) (l m : Int) (ho : o.op = .slice t x lo hi none) (ht : tyR P t = some r) (hd : r.d = .slice et)
    (he : tyR P et = some re) (hsz : re.sz = sz) (hx : ρ x = .os n sz i len)
    (hl : bndH 0 (lo.map ρ) = some l) (hh : bndH len (hi.map ρ) = some m) (h0 : 0 ≤ l) (h1 : l = m) (hml2 : m = len)
    (hk : K (.os n sz (i + len) 0) h) (hk2 : K (.sl sz [] true) h) : OpW P o ρ h K :=
  by
    intro E w ρc R hρ
    have hr := hρ x
    rw [hx] at hr
    obtain ⟨u, hu, hud, hrun⟩ := run_underlying' (w := w) ht
    obtain rfl := tyD_slice (hud.trans hd)
    have hsize := run_sizeOf' (w := w) he
    have hml : maxLen = 9223372036854775807 := rfl
    have key : ∀ (a : Option Addr) (cap : Nat), ρc x = .slice a len cap → len ≤ cap →
        (execOp ρc o).run P w = .ok (.value (.slice (if cap = l.toNat then a else a.map (·.add (l.toNat * sz))) (m.toNat - l.toNat) (cap - l.toNat))) w := by
      intro a cap hv hc
      have hb := run_bounds (P := P) R hρ true len cap lo hi none l m cap hl hh rfl (by simp) h0 (by omega) (by omega) (by omega)
      simp only [Option.map_none] at hb
      have e : ((cap : Int)).toNat = cap := by omega
      simp [execOp, ho, Instr.sliceAt, Instr.slice, hrun, hv, hb, hsize, hsz, e]
    cases hv : ρc x <;> rw [hv] at hr <;> try (cases hr; done)
    have e0 : m.toNat - l.toNat = 0 := by omega
    cases hr with
    | os0 _ _ hd' hl' =>
      have hk' := key _ _ hv (Nat.le_refl _)
      refine .of_value hk' (.same hk2 R ?_)
      rw [e0]
      have e1 : l.toNat = 0 := by have h2 := hml2; simp at h2; omega
      rw [e1]
      exact .sl0 sz true _ _ (fun _ => rfl) (by simp [maxLen]) trivial
    | os _ _ _ _ b o' cap t' mm hd' hl' hlc hmax hsh hm =>
      have hk' := key _ _ hv hlc
      rename_i cap
      by_cases hcl : cap = l.toNat
      · refine .of_value hk' (.same hk2 R ?_)
        rw [e0, if_pos hcl]
        exact .sl0 sz true _ _ (fun _ => by omega) (by omega) trivial
      · refine .of_value hk' (.same hk R ?_)
        rw [e0, if_neg hcl]
        simp only [Option.map_some, addr_add]
        have hlm : m = len := hml2
        have e : o' + i * sz + l.toNat * sz = o' + (i + len) * sz := by
          have : l.toNat = len := by omega
          rw [this, Nat.add_mul]; omega
        rw [e]
        refine .os n sz (i + len) 0 b o' (cap - l.toNat) t' mm hd' hl' (by omega) (by omega) hsh ?_
        rw [show i + len + (cap - l.toNat) = i + cap by omega]
        exact hm

/-- What the bytes of a row are. -/
def bytesOf : List (List HVal) → Option (List UInt8)
  | [] => some []
  | [.int .u8 n] :: r => (bytesOf r).map (UInt8.ofNat n.toNat :: ·)
  | _ => none
theorem bytesOf_ints : ∀ {es : List (List HVal)} {s : List UInt8}, bytesOf es = some s → ∃ ns : List Int, es = ns.map (fun n => [.int .u8 n]) ∧ s = ns.map fun n => UInt8.ofNat n.toNat
  | [], s, h => by simp [bytesOf] at h; subst h; exact ⟨[], rfl, rfl⟩
  | e :: r, s, h => by
    unfold bytesOf at h
    split at h
    · simp_all
    · rename_i n r' heq
      obtain ⟨rfl, rfl⟩ := List.cons.inj heq
      obtain ⟨s', hs, rfl⟩ := Option.map_eq_some_iff.1 h
      obtain ⟨ns, rfl, rfl⟩ := bytesOf_ints hs
      exact ⟨n :: ns, rfl, rfl⟩
    · simp at h
theorem foldl_push : ∀ (ns : List Int) (r : ByteArray), ns.foldl (fun r n => r.push (UInt8.ofNat n.toNat)) r = ⟨(r.data.toList ++ ns.map fun n => UInt8.ofNat n.toNat).toArray⟩
  | [], r => by simp
  | n :: ns, r => by
    rw [List.foldl_cons, foldl_push ns]
    simp [ByteArray.push, List.append_assoc]
theorem opw_conv_bytes (s d et : TypeId) (x : Operand) (rs rd re : TyR) (es : List (List HVal)) (tg : Bool) (bs : List UInt8) (ho : o.op = .convert s d x) (hs : tyR P s = some rs) (hss : rs.d = .slice et) (het : tyR P et = some re) (hee : re.d = .int .u8)
    (hd : tyR P d = some rd) (hdd : rd.d = .str) (hx : ρ x = .sl 1 es tg) (hb : bytesOf es = some bs) (hk : K (.str bs) h) : OpW P o ρ h K :=
  opw_of_value hk fun E w ρc R hρ => by
    have hr := hρ x
    rw [hx] at hr
    obtain ⟨u, hu, hud, hrun⟩ := run_underlying' (w := w) hs
    obtain rfl := tyD_slice (hud.trans hss)
    obtain ⟨u', hu', hud', hrun'⟩ := run_underlying' (w := w) hd
    obtain rfl := tyD_str (hud'.trans hdd)
    obtain ⟨ue, hue, hude, hrune⟩ := run_underlying' (w := w) het
    obtain rfl := tyD_int (hude.trans hee)
    obtain ⟨ns, rfl, rfl⟩ := bytesOf_ints hb
    generalize hes : (ns.map fun n => [HVal.int .u8 n]) = es at hr
    cases hv : ρc x <;> rw [hv] at hr <;> try (cases hr; done)
    cases hr with
    | sl0 _ _ a cap htt hmax ha =>
      have hns : ns = [] := by simpa using hes
      subst hns
      rename_i a cap
      refine ⟨.string ⟨#[]⟩, ?_, .str [] (by simp)⟩
      cases a with
      | none => simp [execOp, ho, convert, hv, hrun, hrun', hrune, Conv.bytesToString]; rfl
      | some a =>
        have := run_bytesToString (P := P) w a 0 cap [] (by simp [loadCells, loadCellsFrom])
        simp [execOp, ho, convert, hv, hrun, hrun', hrune, this]; rfl
    | sl _ _ _ b o' cap cv hI hcap hmax htt hs' hc h1' hrr =>
      rename_i cap
      subst hes
      have hns : (ns.map fun n => UInt8.ofNat n.toNat).length ≤ maxLen := by simp at hcap ⊢; omega
      refine ⟨.string ⟨(ns.map fun n => UInt8.ofNat n.toNat).toArray⟩, ?_, .str _ hns⟩
      have hl : (loadCells ⟨b, o', none⟩ ns.length).run P w = .ok (ns.map (Value.int .u8)).toArray w := by
        have := run_loadCells_list (P := P) (w := w) ⟨b, o', none⟩ (ns.map (Value.int .u8)) (fun j v hj => by
          rw [List.getElem?_map] at hj
          obtain ⟨n, hn, rfl⟩ := Option.map_eq_some_iff.1 hj
          have hat : at2 (ns.map fun n => [HVal.int .u8 n]) j 0 = some (.int .u8 n) := by simp [at2, hn]
          have h1 := hc j 0 _ hat
          have h2 := rep_int (hrr j 0 _ hat)
          rw [addr_add, ← h2, ← h1]
          simp)
        simpa using this
      have := run_bytesToString (P := P) w ⟨b, o', none⟩ ns.length cap ns hl
      simp only [List.length_map] at hv
      simp [execOp, ho, convert, hv, hrun, hrun', hrune, this]
      rw [foldl_push]; simp
theorem opw_str_add (t ty : TypeId) (x y : Operand) (a b : List UInt8) (ho : o.op = .binOp .add t x y ty) (hx : ρ x = .str a) (hy : ρ y = .str b) (hl : a.length + b.length ≤ 9223372036854775807) (hk : K (.str (a ++ b)) h) : OpW P o ρ h K :=
  opw_of_value hk fun E w ρc R hρ => by
    obtain ⟨e1, h1⟩ := rep_str (hx ▸ hρ x)
    obtain ⟨e2, h2⟩ := rep_str (hy ▸ hρ y)
    have hg : (eqGuard .add t x y (ρc x) (ρc y)).run P w = .ok () w := by rw [e1, e2]; simp [eqGuard]
    refine ⟨.string ⟨(a ++ b).toArray⟩, ?_, .str _ (by simp [maxLen] at *; omega)⟩
    simp only [execOp, ho, Sem.run_bind, hg, Result.andThen_ok, e1, e2, binOp, Op.stringOp]
    have hs : ¬ ((((⟨a.toArray⟩ : ByteArray).size + (⟨b.toArray⟩ : ByteArray).size : Nat) : Int) > IntKind.i64.max) := by
      have : IntKind.i64.max = 9223372036854775807 := by decide
      rw [this]; simp [ByteArray.size]; omega
    rw [if_neg hs]
    simp only [Sem.run_pure]
    congr 3
/-- The bytes of strings in order. -/
def strCmp (op : BinOp) (a b : List UInt8) : Option Bool :=
  match op with
  | .lss => some (Op.bytesLess a b)
  | .leq => some (Op.bytesLess a b || a == b)
  | .gtr => some (!(Op.bytesLess a b || a == b))
  | .geq => some (!(Op.bytesLess a b))
  | _ => none
theorem opw_str_cmp (op : BinOp) (t ty : TypeId) (x y : Operand) (a b : List UInt8) (c : Bool) (ho : o.op = .binOp op t x y ty) (hx : ρ x = .str a) (hy : ρ y = .str b) (hc : strCmp op a b = some c) (hk : K (.bool c) h) : OpW P o ρ h K :=
  opw_of_value hk fun E w ρc R hρ => by
    obtain ⟨e1, h1⟩ := rep_str (hx ▸ hρ x)
    obtain ⟨e2, h2⟩ := rep_str (hy ▸ hρ y)
    refine ⟨.bool c, ?_, .bool c⟩
    have q1 : (⟨a.toArray⟩ : ByteArray).toList = a := by rw [ByteArray.toList_eq]
    have q2 : (⟨b.toArray⟩ : ByteArray).toList = b := by rw [ByteArray.toList_eq]
    have hg : (eqGuard op t x y (ρc x) (ρc y)).run P w = .ok () w := by
      rw [e1, e2]; cases op <;> simp [eqGuard]
    rw [e1, e2] at hg
    cases op <;> simp only [strCmp, Option.some.injEq, reduceCtorEq] at hc <;> subst hc <;>
      simp only [execOp, ho, Sem.run_bind, hg, Result.andThen_ok, e1, e2, binOp, Op.stringOp, q1, q2, Sem.run_pure]
/-- A slice beside nil. -/
theorem opw_bin_nilG (op : BinOp) (t ty : TypeId) (x y : Operand) (r : TyR) (et : TypeId) (Z Z2 : Prop) (ho : o.op = .binOp op t x y ty) (ht : tyR P t = some r) (hd : r.d = .slice et)
    (hx : ∀ E w v, Rep E h w (ρ x) v → ∃ a n c, v = .slice a n c ∧ (a = none → Z) ∧ (¬ a = none → Z2)) (hy : ρ y = .nilsl)
    (hop : op = .eql ∨ op = .neq) (h1 : Z → K (.bool (op == .eql)) h) (h2 : Z2 → K (.bool (op != .eql)) h) : OpW P o ρ h K := by
  intro E w ρc R hρ
  have hyv : ρc y = .slice none 0 0 := by have := hy ▸ hρ y; generalize ρc y = v at this; cases this; rfl
  obtain ⟨u, hu, hud, hrun⟩ := run_underlying' (w := w) ht
  obtain rfl := tyD_slice (hud.trans hd)
  have hg : (eqGuard op t x y (ρc x) (ρc y)).run P w = .ok () w := by
    rw [hyv]; rcases hop with rfl | rfl <;> cases ρc x <;> simp [eqGuard]
  have key1 : ∀ (d : Nat) (a : Option Addr) (n c : Nat), (Op.equalIn (d + 1) t (.slice a n c) (.slice none 0 0)).run P w = .ok a.isNone w := by
    intro d a n c
    cases a <;> simp [Op.equalIn, hrun]
  have key : ∀ (a : Option Addr) (n c : Nat), (Op.equal t (.slice a n c) (.slice none 0 0)).run P w = .ok a.isNone w := fun a n c => key1 9999 a n c
  have fin : ∀ (a : Option Addr) (n c : Nat), ρc x = .slice a n c → K (.bool (if op = .eql then a.isNone else !a.isNone)) h → ∃ v, (execOp ρc o).run P w = .ok (.value v) w ∧ Rep E h w (.bool (if op = .eql then a.isNone else !a.isNone)) v := by
    intro a n c e hk
    rw [e, hyv] at hg
    refine ⟨.bool (if op = .eql then a.isNone else !a.isNone), ?_, .bool _⟩
    rcases hop with rfl | rfl
    · simp only [execOp, ho, Sem.run_bind, e, hyv, hg, Result.andThen_ok, binOp, key, Sem.run_pure]; simp
    · simp only [execOp, ho, Sem.run_bind, e, hyv, hg, Result.andThen_ok, binOp, key, Sem.run_pure]; simp
  obtain ⟨a, n, c, hv, hz, hz2⟩ := hx E w _ (hρ x)
  have h1' : Z → K (.bool (if op = .eql then true else false)) h := fun q => by have := h1 q; rcases hop with rfl | rfl <;> exact this
  have h2' : Z2 → K (.bool (if op = .eql then false else true)) h := fun q => by have := h2 q; rcases hop with rfl | rfl <;> exact this
  cases a with
  | none =>
    have he := hz rfl
    obtain ⟨v, hv1, hv2⟩ := fin none n c hv (by simpa using h1' he)
    exact .of_value hv1 (.same (by simpa using h1' he) R (by simpa using hv2))
  | some a =>
    have he := hz2 (by simp)
    obtain ⟨v, hv1, hv2⟩ := fin (some a) n c hv (by simpa using h2' he)
    exact .of_value hv1 (.same (by simpa using h2' he) R (by simpa using hv2))
/-- Of an empty one nothing is known. -/
theorem opw_bin_nil (op : BinOp) (t ty : TypeId) (x y : Operand) (r : TyR) (et : TypeId) (sz : Nat) (es : List (List HVal)) (tt : Bool) (ho : o.op = .binOp op t x y ty) (ht : tyR P t = some r) (hd : r.d = .slice et) (hx : ρ x = .sl sz es tt) (hy : ρ y = .nilsl)
    (hop : op = .eql ∨ op = .neq) (h1 : es = [] → K (.bool (op == .eql)) h) (h2 : K (.bool (op != .eql)) h) : OpW P o ρ h K :=
  opw_bin_nilG op t ty x y r et (es = []) True ho ht hd (fun E w v hr => by
    rw [hx] at hr
    cases v <;> try (cases hr; done)
    exact ⟨_, _, _, rfl, fun q => by subst q; cases hr <;> rfl, fun _ => trivial⟩) hy hop h1 fun _ => h2
/-- An own slice: only an empty one can be nil. -/
theorem opw_bin_nilO (op : BinOp) (t ty : TypeId) (x y : Operand) (r : TyR) (et : TypeId) (m sz i len : Nat) (ho : o.op = .binOp op t x y ty) (ht : tyR P t = some r) (hd : r.d = .slice et) (hx : ρ x = .os m sz i len) (hy : ρ y = .nilsl)
    (hop : op = .eql ∨ op = .neq) (h1 : len = 0 → K (.bool (op == .eql)) h) (h2 : K (.bool (op != .eql)) h) : OpW P o ρ h K :=
  opw_bin_nilG op t ty x y r et (len = 0) True ho ht hd (fun E w v hr => by
    rw [hx] at hr
    cases v <;> try (cases hr; done)
    exact ⟨_, _, _, rfl, fun q => by subst q; cases hr; rfl, fun _ => trivial⟩) hy hop h1 fun _ => h2
theorem opw_bin_nilN (op : BinOp) (t ty : TypeId) (x y : Operand) (r : TyR) (et : TypeId) (ho : o.op = .binOp op t x y ty) (ht : tyR P t = some r) (hd : r.d = .slice et) (hx : ρ x = .nilsl) (hy : ρ y = .nilsl)
    (hop : op = .eql ∨ op = .neq) (h1 : K (.bool (op == .eql)) h) : OpW P o ρ h K :=
  opw_bin_nilG op t ty x y r et True False ho ht hd (fun E w v hr => by
    rw [hx] at hr
    cases v <;> try (cases hr; done)
    exact ⟨_, _, _, rfl, fun _ => trivial, fun q => by cases hr; exact q rfl⟩) hy hop (fun _ => h1) fun q => q.elim
/-- Is a type one of interfaces. -/
def isIfc (P : Program) (t : TypeId) : Bool := match P.underlying t with | some (.interface _) => true | _ => false
def constOp : Operand → Bool | .const _ => true | _ => false
/-- An interface's value beside the literal nil. -/
theorem opw_bin_ifc (op : BinOp) (t ty : TypeId) (x y : Operand) (b : Bool) (ho : o.op = .binOp op t x y ty) (hi : isIfc P t = true) (hc : constOp y = true) (hx : (ρ x = .nilif ∧ b = true) ∨ (∃ ti xi, ρ x = .iface ti xi) ∧ b = false) (hy : ρ y = .nilif)
    (hop : op = .eql ∨ op = .neq) (h1 : K (.bool (if op = .eql then b else !b)) h) : OpW P o ρ h K := by
  intro E w ρc R hρ
  have hyv : ρc y = .nilIface := by have := hy ▸ hρ y; generalize ρc y = v at this; cases this; rfl
  obtain ⟨ms, hu⟩ : ∃ ms, P.underlying t = some (.interface ms) := by
    unfold isIfc at hi
    split at hi
    · exact ⟨_, by assumption⟩
    · cases hi
  have hrun : (underlying t).run P w = .ok (.interface ms) w := by simp [underlying, hu]
  have hyc : ∃ v, y = .const v := by cases y <;> first | exact ⟨_, rfl⟩ | (simp [constOp] at hc)
  obtain ⟨yv, rfl⟩ := hyc
  refine .of_value (v := .bool (if op = .eql then b else !b)) ?_ (.same h1 R (.bool _))
  rcases hx with ⟨hx, rfl⟩ | ⟨⟨ti, xi, hx⟩, rfl⟩
  · have hxv : ρc x = .nilIface := by have := hx ▸ hρ x; generalize ρc x = v at this; cases this; rfl
    have hg : (eqGuard op t x (.const yv) (ρc x) (ρc (.const yv))).run P w = .ok () w := by
      rw [hxv, hyv]; rcases hop with rfl | rfl <;> simp [eqGuard]
    have key1 : ∀ d : Nat, (Op.equalIn (d + 1) t .nilIface .nilIface).run P w = .ok true w := by
      intro d
      simp [Op.equalIn, hrun]
    have key : (Op.equal t .nilIface .nilIface).run P w = .ok true w := key1 9999
    rw [hxv, hyv] at hg
    rcases hop with rfl | rfl
    · simp only [execOp, ho, Sem.run_bind, hxv, hyv, hg, Result.andThen_ok, binOp, key, Sem.run_pure]; simp
    · simp only [execOp, ho, Sem.run_bind, hxv, hyv, hg, Result.andThen_ok, binOp, key, Sem.run_pure]; simp
  · obtain ⟨xv, hxv⟩ : ∃ xv, ρc x = .iface ti xv := by have := hx ▸ hρ x; generalize ρc x = v at this; cases this; exact ⟨_, rfl⟩
    have hg : (eqGuard op t x (.const yv) (ρc x) (ρc (.const yv))).run P w = .ok () w := by
      rw [hxv, hyv]; rcases hop with rfl | rfl <;> simp [eqGuard]
    have key1 : ∀ d : Nat, (Op.equalIn (d + 1) t (.iface ti xv) .nilIface).run P w = .ok false w := by
      intro d
      simp [Op.equalIn, hrun]
    have key : (Op.equal t (.iface ti xv) .nilIface).run P w = .ok false w := key1 9999
    rw [hxv, hyv] at hg
    rcases hop with rfl | rfl
    · simp only [execOp, ho, Sem.run_bind, hxv, hyv, hg, Result.andThen_ok, binOp, key, Sem.run_pure]; simp
    · simp only [execOp, ho, Sem.run_bind, hxv, hyv, hg, Result.andThen_ok, binOp, key, Sem.run_pure]; simp
end
variable {ds : List Deferred}

def callable (P : Program) (f : FuncId) : Bool :=
  match P.funcs[f]? with
  | some fn => fn.body.isSome && !(fn.name == "runtime.NumGoroutine")
  | none => false

/-- A contract, with the fact that the function has a body. -/
def HFn (P : Program) (f : FuncId) (args : List HVal) (h : Heap) (K : HVal → Heap → Prop) : Prop := callable P f = true ∧ HCalls P f args h K

theorem HFn.mono {P : Program} {f : FuncId} {args : List HVal} {h : Heap} {K K' : HVal → Heap → Prop} (a : HFn P f args h K) (hk : ∀ r h', K r h' → K' r h') : HFn P f args h K' := ⟨a.1, a.2.mono hk⟩

/-- A function that hands back one value and leaves the named rows as they are. -/
def Fn0 (P : Program) (f : FuncId) (args : List HVal) (r : HVal) : Prop := ∀ h, HFn P f args h fun r' h' => r' = r ∧ h' = h

theorem Fn0.call {P : Program} {f : FuncId} {args : List HVal} {r : HVal} (a : Fn0 P f args r) {h : Heap} {K : HVal → Heap → Prop} (hk : K r h) : HFn P f args h K :=
  (a h).mono fun _ _ ⟨e, e'⟩ => e ▸ e' ▸ hk

section
variable {P : Program} {o : Oper} {ρ : Operand → HVal} {h : Heap} {K : HVal → Heap → Prop}
theorem opw_call (f : Operand) (as : Array Operand) (ats : Array TypeId) (g : FuncId) (first cap : List HVal) (ho : o.op = .call { callee := .value f, args := as, argTypes := ats }) (hf : ρ f = .fn (.func g) first cap)
    (hk : HFn P g (first ++ as.toList.map ρ ++ cap) h K) : OpW P o ρ h K := by
  intro E w ρc R hρ
  have hr := hρ f
  rw [hf] at hr
  obtain ⟨hc, hk⟩ := hk
  cases hv : ρc f <;> rw [hv] at hr <;> try (cases hr; done)
  cases hr with
  | fn _ _ _ vs us hl hrr hl' hrr' =>
    have hL := (RepL.append (RepL.append (RepL.mk hl hrr) (repL_map hρ as.toList)) (RepL.mk hl' hrr'))
    unfold callable at hc
    cases hfn : P.funcs[g]? with
    | none => simp [hfn] at hc
    | some fn =>
      simp only [hfn, Bool.and_eq_true, Bool.not_eq_true', beq_eq_false_iff_ne, ne_eq] at hc
      have hb : fn.body.isNone = false := by cases hb : fn.body <;> simp_all
      have hrun : (execOp ρc o).run P w = .ok (.enter g (vs ++ as.toList.map ρc ++ us).toArray) w := by
        have hb' : ¬ fn.body = none := by intro e; simp [e] at hb
        simp [execOp, ho, resolve, hv, Deferred.ofValue, invoke, callFunc, hfn, hc.2]
        rw [if_neg hb']
        congr 2
        apply Array.ext'
        simp
      unfold Runs
      rw [hrun]
      exact Calls.mono (hk E w _ R hL) fun e w' he => by cases e <;> exact he
end

/-- The bools of a guard's operation. -/
abbrev Tmps := List (Nat × HVal)
def tget : Tmps → Nat → HVal
  | [], _ => .any
  | (j, v) :: r, k => if j = k then v else tget r k
def hev (τ : Tmps) : Operand → HVal
  | .tmp t => tget τ t
  | .const v => .ofValue v
  | .global _ => .any
  | .func f => .fn (.func f) [] []
def tput (τ : Tmps) (d : Option Tmp) (v : HVal) : Tmps :=
  match d with
  | some d => (d, v) :: τ
  | none => τ
def prune (keep : List Nat) (τ : Tmps) : Tmps := keep.map fun k => (k, tget τ k)

structure RepT (ds : List Deferred) (E : Env) (h : Heap) (w : World) (N : Nat) (τ : Tmps) (a : Act) : Prop where
  size : a.tmps.size = N
  defers : a.defers = ds
  get : ∀ k, Rep E h w (tget τ k) (a.tmps.getD k undef)

theorem RepT.hev {E : Env} {h : Heap} {w : World} {N : Nat} {τ : Tmps} {a : Act} (r : RepT ds E h w N τ a) (x : Operand) : Rep E h w (hev τ x) (a.eval x) := by
  cases x with
  | tmp t => exact r.get t
  | const v => exact .ofValue _ _ _ _
  | global g => exact .any _
  | func f =>
    have := Rep.fn (E := E) (h := h) (w := w) (.func f) [] [] [] [] rfl (by simp) rfl (by simp)
    exact this

theorem RepT.put {E : Env} {h : Heap} {w : World} {N : Nat} {τ : Tmps} {a : Act} (r : RepT ds E h w N τ a) (d : Option Tmp) (hd : ∀ k, d = some k → k < N) {x : HVal} {v : Value} (hx : Rep E h w x v) :
    RepT ds E h w N (tput τ d x) (a.put d v) := by
  cases d with
  | none => exact r
  | some d =>
    have hlt : d < a.tmps.size := by rw [r.size]; exact hd d rfl
    refine ⟨by simpa [Act.put] using r.size, r.defers, fun k => ?_⟩
    simp only [tput, tget, Act.put]
    by_cases e : d = k
    · subst e
      simp [hlt]; exact hx
    · rw [if_neg e]
      have := r.get k
      simpa [Array.getElem?_setIfInBounds_ne e] using this

theorem RepT.ev {E E' : Env} {h h' : Heap} {w w' : World} {N : Nat} {τ : Tmps} {a : Act} (r : RepT ds E h w N τ a) (ev : Ev E h w E' h' w') : RepT ds E' h' w' N τ a :=
  ⟨r.size, r.defers, fun k => (r.get k).ev ev⟩

theorem tget_prune (keep : List Nat) (τ : Tmps) (k : Nat) : tget (prune keep τ) k = .any ∨ tget (prune keep τ) k = tget τ k := by
  induction keep with
  | nil => exact .inl rfl
  | cons j keep ih =>
    simp only [prune, List.map_cons, tget]
    by_cases e : j = k
    · subst e; simp
    · rw [if_neg e]; exact ih

theorem RepT.prune {E : Env} {h : Heap} {w : World} {N : Nat} {τ : Tmps} {a : Act} (keep : List Nat) (r : RepT ds E h w N τ a) : RepT ds E h w N (prune keep τ) a :=
  ⟨r.size, r.defers, fun k => by
    rcases tget_prune keep τ k with e | e
    · rw [e]; exact .any _
    · rw [e]; exact r.get k⟩

/-- Behind a piece of code. -/
def AfterC (ds : List Deferred) (N : Nat) (Q : Exit → Tmps → Heap → Prop) (E : Env) (h : Heap) (w : World) (e : Exit) (a' : Act) (w' : World) : Prop :=
  ∃ τ' h' E', Q e τ' h' ∧ Ev E h w E' h' w' ∧ Rel E' h' w' ∧ RepT ds E' h' w' N τ' a'

def HWp (P : Program) (N : Nat) (c : Code) (Q : Exit → Tmps → Heap → Prop) (τ : Tmps) (h : Heap) : Prop :=
  ∀ (ds : List Deferred) E w a, Rel E h w → RepT ds E h w N τ a → Code.wp P c (AfterC ds N Q E h w) a w

theorem AfterC.trans {N : Nat} {Q : Exit → Tmps → Heap → Prop} {E E' : Env} {h h' : Heap} {w w' : World} {e : Exit} {a : Act} {w'' : World} (ev : Ev E h w E' h' w') (x : AfterC ds N Q E' h' w' e a w'') : AfterC ds N Q E h w e a w'' :=
  let ⟨τ, g, F, q, ev', R, r⟩ := x; ⟨τ, g, F, q, ev.trans ev', R, r⟩

theorem HWp.mono {P : Program} {N : Nat} {c : Code} {Q Q' : Exit → Tmps → Heap → Prop} {τ : Tmps} {h : Heap} (hq : ∀ e τ h, Q e τ h → Q' e τ h) (x : HWp P N c Q τ h) : HWp P N c Q' τ h :=
  fun ds E w a R r => Code.wp_mono (fun e a' w' ⟨τ', h', E', q, rest⟩ => ⟨τ', h', E', hq _ _ _ q, rest⟩) (x ds E w a R r)

theorem HWp.prune {P : Program} {N : Nat} {c : Code} {Q : Exit → Tmps → Heap → Prop} {τ : Tmps} {h : Heap} (keep : List Nat) (x : HWp P N c Q (prune keep τ) h) : HWp P N c Q τ h :=
  fun ds E w a R r => x ds E w a R (r.prune keep)

theorem HWp.forget {P : Program} {N : Nat} {c : Code} {Q : Exit → Tmps → Heap → Prop} {τ : Tmps} {h g : Heap} (hl : g.le h) (x : HWp P N c Q τ g) : HWp P N c Q τ h :=
  fun ds E w a R r => Code.wp_mono (fun e a' w' y => AfterC.trans ((Ev.refl E h w).forget hl) y) (x ds E w a (R.forget hl) (r.ev ((Ev.refl E h w).forget hl)))

theorem HWp.skip {P : Program} {N : Nat} {Q : Exit → Tmps → Heap → Prop} {τ : Tmps} {h : Heap} (hq : Q .normal τ h) : HWp P N .skip Q τ h :=
  fun ds E w a R r => wp_skip ⟨τ, h, E, hq, .refl _ _ _, R, r⟩
theorem HWp.exit {P : Program} {N id : Nat} {Q : Exit → Tmps → Heap → Prop} {τ : Tmps} {h : Heap} (hq : Q (.exit id) τ h) : HWp P N (.exit id) Q τ h :=
  fun ds E w a R r => wp_exit ⟨τ, h, E, hq, .refl _ _ _, R, r⟩
theorem HWp.ret {P : Program} {N : Nat} {Q : Exit → Tmps → Heap → Prop} {τ : Tmps} {h : Heap} (hq : Q .ret τ h) : HWp P N .ret Q τ h :=
  fun ds E w a R r => wp_ret ⟨τ, h, E, hq, .refl _ _ _, R, r⟩

def thenQ (next : Tmps → Heap → Prop) (Q : Exit → Tmps → Heap → Prop) : Exit → Tmps → Heap → Prop
  | .normal, τ, h => next τ h
  | .outgrown, _, _ => False
  | e, τ, h => Q e τ h

theorem HWp.seq {P : Program} {N : Nat} {x y : Code} {Q : Exit → Tmps → Heap → Prop} {τ : Tmps} {h : Heap} (hx : HWp P N x (thenQ (HWp P N y Q) Q) τ h) : HWp P N (.seq x y) Q τ h := by
  intro ds E w a R r
  refine wp_seq (Code.wp_mono ?_ (hx ds E w a R r))
  rintro e a' w' ⟨τ', h', E', q, ev, R', r'⟩
  cases e <;> simp only [thenQ] at q
  · simp only [Exit.then]
    exact Code.wp_mono (fun e a w y => AfterC.trans ev y) (q ds E' w' a' R' r')
  all_goals first | exact q.elim | exact ⟨τ', h', E', q, ev, R', r'⟩

theorem HWp.cond {P : Program} {N : Nat} {c : Operand} {x y : Code} {Q : Exit → Tmps → Heap → Prop} {τ : Tmps} {h : Heap} {b : Bool} (hc : hev τ c = .bool b)
    (ht : b = true → HWp P N x Q τ h) (hf : b = false → HWp P N y Q τ h) : HWp P N (.cond c x y) Q τ h := by
  intro ds E w a R r
  have := r.hev c
  rw [hc] at this
  exact wp_cond_split (rep_bool this) (fun e => ht e ds E w a R r) (fun e => hf e ds E w a R r)

def blockQ (id : Nat) (Q : Exit → Tmps → Heap → Prop) : Exit → Tmps → Heap → Prop
  | .exit id', τ, h => if id' = id then Q .normal τ h else Q (.exit id') τ h
  | .outgrown, _, _ => False
  | e, τ, h => Q e τ h

theorem HWp.block {P : Program} {N id : Nat} {c : Code} {Q : Exit → Tmps → Heap → Prop} {τ : Tmps} {h : Heap} (hx : HWp P N c (blockQ id Q) τ h) : HWp P N (.block id c) Q τ h := by
  intro ds E w a R r
  refine wp_block (Code.wp_mono ?_ (hx ds E w a R r))
  rintro e a' w' ⟨τ', h', E', q, ev, R', r'⟩
  cases e <;> simp only [blockQ] at q <;> simp only [Exit.inBlock]
  case exit id' =>
    split
    · rename_i e; rw [if_pos e] at q; exact ⟨τ', h', E', q, ev, R', r'⟩
    · rename_i e; rw [if_neg e] at q; exact ⟨τ', h', E', q, ev, R', r'⟩
  all_goals first | exact q.elim | exact ⟨τ', h', E', q, ev, R', r'⟩

/-- A loop: a relation and a measure. -/
theorem HWp.loop {P : Program} {N : Nat} {c : Code} {Q : Exit → Tmps → Heap → Prop} {τ : Tmps} {h : Heap} {α : Type} (I : α → Tmps → Heap → Prop) (μ : α → Nat) (x₀ : α) (h₀ : I x₀ τ h)
    (round : ∀ x τ h, I x τ h → HWp P N c (thenQ (fun τ' h' => ∃ x', I x' τ' h' ∧ μ x' < μ x) Q) τ h) : HWp P N (.loop c) Q τ h := by
  intro ds E w a R r
  have key : ∀ n x τ₁ h₁ E₁ a₁ w₁, μ x = n → I x τ₁ h₁ → Ev E h w E₁ h₁ w₁ → Rel E₁ h₁ w₁ → RepT ds E₁ h₁ w₁ N τ₁ a₁ → ∀ b k cs,
      ∃ e a' w', AfterC ds N Q E h w e a' w' ∧ Arrives P (lone (b.at a₁ (.code c :: .inLoop c :: k)) cs w₁) b k cs e a' w' := by
    intro n
    induction n using Nat.strongRecOn with
    | _ n ih =>
      intro x τ₁ h₁ E₁ a₁ w₁ hn hI ev₁ R₁ r₁ b k cs
      obtain ⟨e, a₂, w₂, ⟨τ₂, h₂, E₂, q, ev₂, R₂, r₂⟩, harr⟩ := round x τ₁ h₁ hI ds E₁ w₁ a₁ R₁ r₁ b (.inLoop c :: k) cs
      cases e with
      | normal =>
        obtain ⟨x', hI', hlt⟩ := q
        obtain ⟨e₃, a₃, w₃, q₃, harr₃⟩ := ih (μ x') (hn ▸ hlt) x' τ₂ h₂ E₂ a₂ w₂ rfl hI' (ev₁.trans ev₂) R₂ r₂ b k cs
        exact ⟨e₃, a₃, w₃, q₃, .of_steps (Steps.trans harr (.one step_inLoop)) harr₃⟩
      | outgrown => exact q.elim
      | exit id => exact ⟨_, a₂, w₂, ⟨τ₂, h₂, E₂, q, ev₁.trans ev₂, R₂, r₂⟩, .pass (x := .inLoop c) rfl (fun _ _ => .inl (by simp)) harr⟩
      | goto l => exact ⟨_, a₂, w₂, ⟨τ₂, h₂, E₂, q, ev₁.trans ev₂, R₂, r₂⟩, .pass (x := .inLoop c) rfl (fun _ _ => .inl (by simp)) harr⟩
      | ret => exact ⟨_, a₂, w₂, ⟨τ₂, h₂, E₂, q, ev₁.trans ev₂, R₂, r₂⟩, .pass (x := .inLoop c) rfl (fun _ _ => .inl (by simp)) harr⟩
      | panic ch => exact ⟨_, a₂, w₂, ⟨τ₂, h₂, E₂, q, ev₁.trans ev₂, R₂, r₂⟩, .pass (x := .inLoop c) rfl (fun _ _ => .inl (by simp)) harr⟩
  intro b k cs
  obtain ⟨e, a', w', q, harr⟩ := key _ x₀ τ h E a w rfl h₀ (.refl _ _ _) R r b k cs
  exact ⟨e, a', w', q, .of_steps (.one step_loop) harr⟩
/-! Structs of integers and booleans compared. -/
def isB : HVal → Bool
  | .bool _ => true
  | _ => false
/-- The kinds (boolean or not) of a struct type's fields, if they are integers and booleans in a row. -/
def fldKinds (P : Program) : Nat → List Field → Option (List Bool)
  | _, [] => some []
  | i, f :: fs => if f.name != "_" && f.offset == i then (match P.underlying f.type with | some (.int _) => (fldKinds P (i + 1) fs).map (false :: ·) | some .bool => (fldKinds P (i + 1) fs).map (true :: ·) | _ => none) else none
def aggTy (P : Program) (t : TypeId) : Option (List Bool) :=
  if !P.stoodInHeld t && !P.eqGuardType P.depth t then (match P.underlying t with | some (.struct fs) => fldKinds P 0 fs.toList | _ => none) else none
def aggEq : List HVal → List HVal → Option Bool
  | [], [] => some true
  | .int k a :: xs, .int k' b :: ys => if k = k' then (aggEq xs ys).map (decide (a = b) && ·) else none
  | .bool a :: xs, .bool b :: ys => (aggEq xs ys).map ((a == b) && ·)
  | _, _ => none
theorem fldKinds_cons {P : Program} {i : Nat} {f : Field} {fs : List Field} {q : Bool} {l : List Bool} (h : fldKinds P i (f :: fs) = some (q :: l)) :
    f.name ≠ "_" ∧ f.offset = i ∧ fldKinds P (i + 1) fs = some l ∧ P.plainKey f.type = true ∧ (q = false → ∃ k, P.underlying f.type = some (.int k)) ∧ (q = true → P.underlying f.type = some .bool) := by
  rw [fldKinds] at h
  split at h
  · rename_i hc
    rw [Bool.and_eq_true] at hc
    refine ⟨by simpa using hc.1, by simpa using hc.2, ?_⟩
    split at h
    · rename_i k e
      obtain ⟨r, hr, he⟩ := Option.map_eq_some_iff.1 h
      cases he
      exact ⟨hr, by simp [Program.plainKey, e], fun _ => ⟨k, e⟩, fun q => by cases q⟩
    · rename_i e
      obtain ⟨r, hr, he⟩ := Option.map_eq_some_iff.1 h
      cases he
      exact ⟨hr, by simp [Program.plainKey, e], fun q => by (cases q), fun _ => e⟩
    · cases h
  · cases h
theorem run_eqFields_flat {P : Program} {E : Env} {h : Heap} {w : World} (d : Nat) (X Y : List Value) : ∀ (fs : List Field) (i : Nat) (xs ys : List HVal) (b : Bool), fldKinds P i fs = some (xs.map isB) → aggEq xs ys = some b →
    (∀ j x, xs[j]? = some x → ∃ v, X[i + j]? = some v ∧ Rep E h w x v) → (∀ j y, ys[j]? = some y → ∃ v, Y[i + j]? = some v ∧ Rep E h w y v) → (Op.eqFields (d + 1) X.toArray Y.toArray fs).run P w = .ok b w
  | [], i, xs, ys, b, hf, he, hx, hy => by
    rw [fldKinds] at hf
    have hn : xs = [] := by have := Option.some.inj hf; exact (List.map_eq_nil_iff.1 this.symm)
    subst hn
    cases ys with
    | cons y ys => simp [aggEq] at he
    | nil =>
      obtain rfl := Option.some.inj he
      simp [Op.eqFields]
  | f :: fs, i, xs, ys, b, hf, he, hx, hy => by
    have step : ∀ (x y : HVal) (xs' ys' : List HVal) (r q : Bool), xs = x :: xs' → ys = y :: ys' → aggEq xs' ys' = some r → b = (q && r) →
        (∀ v u, Rep E h w x v → Rep E h w y u → (∀ k, isB x = false → P.underlying f.type = some (.int k) → (Op.equalIn (d + 1) f.type v u).run P w = .ok q w) ∧ (isB x = true → P.underlying f.type = some .bool → (Op.equalIn (d + 1) f.type v u).run P w = .ok q w)) → (Op.eqFields (d + 1) X.toArray Y.toArray (f :: fs)).run P w = .ok b w := fun x y xs' ys' r q ex ey hr hb hq => by
      subst ex; subst ey; subst hb
      obtain ⟨v, v1, v2⟩ := hx 0 _ rfl
      obtain ⟨u, u1, u2⟩ := hy 0 _ rfl
      obtain ⟨hn, ho, h4, hpk, k1, k2⟩ := fldKinds_cons hf
      have ih := run_eqFields_flat (P := P) d X Y fs (i + 1) xs' ys' r h4 hr (fun j x hj => by rw [show i + 1 + j = i + (j + 1) by omega]; exact hx (j + 1) x hj) (fun j x hj => by rw [show i + 1 + j = i + (j + 1) by omega]; exact hy (j + 1) x hj)
      have p1 := run_part_plain (P := P) w hpk (xs := X.toArray) (off := f.offset) (v := v) (by rw [ho]; simpa using v1)
      have p2 := run_part_plain (P := P) w hpk (xs := Y.toArray) (off := f.offset) (v := u) (by rw [ho]; simpa using u1)
      have he' : (Op.equalIn (d + 1) f.type v u).run P w = .ok q w := by
        cases hb : isB x with
        | false => obtain ⟨k, hk⟩ := k1 hb; exact (hq v u v2 u2).1 k hb hk
        | true => exact (hq v u v2 u2).2 hb (k2 hb)
      simp only [Op.eqFields, hn, ne_eq, not_false_eq_true, if_true, Sem.run_bind, p1, p2, he', Result.andThen_ok]
      cases q
      · simp
      · simpa using ih
    match xs, ys, he, step with
    | .int k a :: xs, .int k' c :: ys, he, step =>
      rw [aggEq] at he
      split at he
      · rename_i hk
        subst hk
        obtain ⟨r, hr, rfl⟩ := Option.map_eq_some_iff.1 he
        refine step _ _ xs ys r (decide (a = c)) rfl rfl hr rfl fun v u hv hu => ⟨fun k'' _ e => ?_, fun q _ => by simp [isB] at q⟩
        rw [rep_int hv, rep_int hu, run_equalIn_int w d f.type k k'' a c e]
        rw [show (a == c) = decide (a = c) from Bool.eq_iff_iff.2 (by rw [beq_iff_eq, decide_eq_true_eq])]
      · cases he
    | .bool a :: xs, .bool c :: ys, he, step =>
      rw [aggEq] at he
      obtain ⟨r, hr, rfl⟩ := Option.map_eq_some_iff.1 he
      refine step _ _ xs ys r (a == c) rfl rfl hr rfl fun v u hv hu => ⟨fun k'' q _ => by simp [isB] at q, fun _ e => ?_⟩
      rw [rep_bool hv, rep_bool hu, run_equalIn_bool' w d f.type a c e]
    | [], [], he, step =>
      exfalso
      rw [fldKinds] at hf
      split at hf
      · split at hf
        · obtain ⟨r, _, q⟩ := Option.map_eq_some_iff.1 hf; cases q
        · obtain ⟨r, _, q⟩ := Option.map_eq_some_iff.1 hf; cases q
        · cases hf
      · cases hf
section
variable {P : Program} {o : Oper} {ρ : Operand → HVal} {h : Heap} {K : HVal → Heap → Prop}
theorem opw_bin_agg (op : BinOp) (t ty : TypeId) (x y : Operand) (xs ys : List HVal) (b : Bool) (v : HVal) (ho : o.op = .binOp op t x y ty) (ht : aggTy P t = some (xs.map isB)) (hb : aggEq xs ys = some b) (hx : ρ x = .agg xs) (hy : ρ y = .agg ys)
    (hop : (op = .eql ∧ v = .bool b) ∨ (op = .neq ∧ v = .bool !b)) (hk : K v h) : OpW P o ρ h K :=
  opw_of_value hk fun E w ρc R hρ => by
    have rx := hx ▸ hρ x
    have ry := hy ▸ hρ y
    generalize ex : ρc x = vx at rx
    generalize ey : ρc y = vy at ry
    cases rx with
    | agg _ X hX rX =>
      cases ry with
      | agg _ Y hY rY =>
        unfold aggTy at ht
        split at ht
        · rename_i hc
          rw [Bool.and_eq_true] at hc
          have hs : P.stoodInHeld t = false := by simpa using hc.1
          have hm : P.eqGuardType P.depth t = false := by simpa using hc.2
          split at ht
          · rename_i fs hu
            have hfo : P.fieldsOf t = fs := by simp [Program.fieldsOf, hu]
            have hg := run_eqGuard_agg (P := P) w op t x y X.toArray Y.toArray hm
            have he : (Op.equalIn 10000 t (.agg X.toArray) (.agg Y.toArray)).run P w = .ok b w := by
              rw [run_equalIn_agg w 9999 t _ _ (by rw [hfo]; exact hu) hs, hfo]
              exact run_eqFields_flat 9998 X Y fs.toList 0 xs ys b ht hb (fun j z hz => by
                obtain ⟨v, hv⟩ : ∃ v, X[j]? = some v := ⟨_, List.getElem?_eq_getElem (by rw [← hX]; exact (List.getElem?_eq_some_iff.1 hz).1)⟩
                exact ⟨v, by rw [Nat.zero_add]; exact hv, rX j z v hz hv⟩) (fun j z hz => by
                obtain ⟨v, hv⟩ : ∃ v, Y[j]? = some v := ⟨_, List.getElem?_eq_getElem (by rw [← hY]; exact (List.getElem?_eq_some_iff.1 hz).1)⟩
                exact ⟨v, by rw [Nat.zero_add]; exact hv, rY j z v hz hv⟩)
            rcases hop with ⟨rfl, rfl⟩ | ⟨rfl, rfl⟩
            · exact ⟨.bool b, by simp only [execOp, ho, Sem.run_bind, ex, ey, hg, Result.andThen_ok, run_eql_struct, he, Sem.run_pure], .bool _⟩
            · exact ⟨.bool !b, by simp only [execOp, ho, Sem.run_bind, ex, ey, hg, Result.andThen_ok, run_neq_struct, he, Sem.run_pure], .bool _⟩
          · cases ht
        · cases ht
end
end Go.Hl

/-
  Maps whose keys are structs or arrays of integers, interface values, and methods called through them.
-/
namespace Go.Hl
set_option linter.unusedVariables false
set_option linter.unusedSimpArgs false

def keyH (k : List Int) : HVal := .agg (k.map (HVal.int .i64))
def keyV (k : List Int) : Value := .agg (k.map (Value.int .i64)).toArray
abbrev KMap := List (List Int × HVal)
def mapH (m : KMap) : List (HVal × HVal) := m.map fun p => (keyH p.1, p.2)
def mget (k : List Int) : KMap → Option HVal
  | [] => none
  | p :: m => if p.1 = k then some p.2 else mget k m
def mput (k : List Int) (v : HVal) : KMap → KMap
  | [] => [(k, v)]
  | p :: m => if p.1 = k then (k, v) :: m else p :: mput k v m
theorem mget_mput (k k' : List Int) (v : HVal) : ∀ m : KMap, mget k' (mput k v m) = if k' = k then some v else mget k' m
  | [] => by
    simp only [mput, mget]
    by_cases e : k' = k
    · rw [if_pos e, if_pos e.symm]
    · rw [if_neg e, if_neg fun q => e q.symm]
  | p :: m => by
    have ih := mget_mput k k' v m
    simp only [mput]
    by_cases e : p.1 = k
    · rw [if_pos e]
      simp only [mget]
      by_cases e' : k' = k
      · rw [if_pos e', if_pos e'.symm]
      · rw [if_neg e', if_neg fun q => e' q.symm, if_neg (by rw [e]; exact fun q => e' q.symm)]
    · rw [if_neg e]
      simp only [mget, ih]
      by_cases e' : p.1 = k'
      · rw [if_pos e', if_pos e', if_neg fun q => e (e'.trans q)]
      · rw [if_neg e', if_neg e']
def midx (k : List Int) : KMap → Nat
  | [] => 0
  | p :: m => if p.1 = k then 0 else midx k m + 1
def mset : Nat → HVal → KMap → KMap
  | _, _, [] => []
  | 0, v, p :: m => (p.1, v) :: m
  | j + 1, v, p :: m => p :: mset j v m
theorem mset_mput (k : List Int) (x v : HVal) : ∀ m : KMap, mset (midx k m) v (mput k x m) = mput k v m
  | [] => rfl
  | p :: m => by
    have ih := mset_mput k x v m
    simp only [midx, mput]
    by_cases e : p.1 = k
    · rw [if_pos e, if_pos e, if_pos e]; rfl
    · rw [if_neg e, if_neg e, if_neg e, mset, ih]
theorem midx_lt (k : List Int) (x : HVal) : ∀ m : KMap, midx k m < (mput k x m).length
  | [] => Nat.zero_lt_one
  | p :: m => by
    have ih := midx_lt k x m
    simp only [midx, mput]
    by_cases e : p.1 = k
    · rw [if_pos e, if_pos e]; exact Nat.zero_lt_succ _
    · rw [if_neg e, if_neg e]; exact Nat.succ_lt_succ ih
theorem mset_eq {v : HVal} : ∀ {m : KMap} {j : Nat}, j < m.length → ∃ p, m[j]? = some p ∧ mset j v m = m.set j (p.1, v)
  | [], j, h => absurd h (Nat.not_lt_zero j)
  | p :: m, 0, _ => ⟨p, rfl, rfl⟩
  | p :: m, j + 1, h => by
    obtain ⟨q, h1, h2⟩ := mset_eq (v := v) (m := m) (Nat.lt_of_succ_lt_succ h)
    exact ⟨q, h1, by rw [mset, h2]; rfl⟩
theorem mput_mem {k : List Int} {v : HVal} : ∀ {m : KMap} {p : List Int × HVal}, p ∈ mput k v m → p = (k, v) ∨ p ∈ m
  | [], p, h => by simp only [mput, List.mem_singleton] at h; exact .inl h
  | q :: m, p, h => by
    simp only [mput] at h
    split at h
    · rcases List.mem_cons.1 h with h | h
      · exact .inl h
      · exact .inr (List.mem_cons_of_mem _ h)
    · rcases List.mem_cons.1 h with h | h
      · exact .inr (h ▸ List.mem_cons_self)
      · exact (mput_mem h).imp id fun h => List.mem_cons_of_mem _ h
def keysLen (n : Nat) (m : KMap) : Prop := ∀ p ∈ m, p.1.length = n
theorem keysLen_nil (n : Nat) : keysLen n [] := fun _ h => by cases h
theorem keysLen_put {n : Nat} {m : KMap} (h : keysLen n m) {k : List Int} (hk : k.length = n) (v : HVal) : keysLen n (mput k v m) := fun p hp => by
  rcases mput_mem hp with e | e
  · rw [e]; exact hk
  · exact h p e

/-- What is asked of a type of keys. -/
structure KeyTy (P : Program) (kt : TypeId) (n : Nat) : Prop where
  eq : ∀ (w : World) (a b : List Int), a.length = n → b.length = n → (Op.equal kt (keyV a) (keyV b)).run P w = .ok (decide (a = b)) w
  chk : ∀ (em : Bool) (w : World) (a : List Int), a.length = n → (Instr.checkKey em 10000 kt (keyV a)).run P w = .ok () w
  wide : ∃ u, P.underlying kt = some u ∧ ∀ a b, Instr.sameNow u (keyV a) b = none

theorem rep_key {E : Env} {h : Heap} {w : World} {k : List Int} {v : Value} (r : Rep E h w (keyH k) v) : v = keyV k := by
  cases r with
  | agg _ vs hl hr =>
    unfold keyV
    congr 2
    apply List.ext_getElem?
    intro i
    simp only [List.length_map] at hl
    by_cases hi : i < k.length
    · have h1 : (k.map (HVal.int .i64))[i]? = some (.int .i64 k[i]) := by rw [List.getElem?_map, List.getElem?_eq_getElem hi]; rfl
      have h2 : vs[i]? = some vs[i] := List.getElem?_eq_getElem (by omega)
      have := rep_int (hr i _ _ h1 h2)
      rw [h2, this, List.getElem?_map, List.getElem?_eq_getElem hi]; rfl
    · rw [List.getElem?_eq_none (by omega), List.getElem?_eq_none (by simp; omega)]

section
variable {P : Program} {kt : TypeId} {n : Nat}
theorem find_run (hK : KeyTy P kt n) {E : Env} {h : Heap} {w : World} {k : List Int} (hk : k.length = n) : ∀ (m : KMap) (es : List MapEntry) (i : Nat), keysLen n m →
    RepL E h w ((mapH m).map (·.1)) (es.map (·.key)) → RepL E h w ((mapH m).map (·.2)) (es.map (·.val)) →
    (mget k m = none ∧ (Instr.findAsking kt (keyV k) es i).run P w = .ok none w ∧ (∀ v, mput k v m = m ++ [(k, v)]) ∧ midx k m = m.length) ∨
    (∃ j e x, mget k m = some x ∧ (Instr.findAsking kt (keyV k) es i).run P w = .ok (some (i + j, e.val)) w ∧ es[j]? = some e ∧ Rep E h w x e.val ∧ e.key = keyV k ∧ (∀ v, mput k v m = m.set j (k, v)) ∧ midx k m = j)
  | [], [], i, _, _, _ => .inl ⟨rfl, by simp [Instr.findAsking], fun _ => rfl, rfl⟩
  | [], e :: es, i, _, h1, _ => by simp [mapH, RepL] at h1
  | p :: m, [], i, _, h1, _ => by simp [mapH, RepL] at h1
  | p :: m, e :: es, i, hl, h1, h2 => by
    simp only [mapH, List.map_cons, RepL] at h1 h2
    have ek := rep_key h1.1
    have hp : p.1.length = n := hl p List.mem_cons_self
    have he := hK.eq w k p.1 hk hp
    by_cases q : p.1 = k
    · refine .inr ⟨0, e, p.2, by simp [mget, q], ?_, rfl, h2.1, by rw [ek, q], fun v => by simp [mput, q], by simp [midx, q]⟩
      simp only [Instr.findAsking, ek, Sem.run_bind, he, Result.andThen_ok]
      rw [decide_eq_true q.symm]
      simp
    · have hd : decide (k = p.1) = false := decide_eq_false fun z => q z.symm
      rcases find_run hK hk m es (i + 1) (fun y hy => hl y (List.mem_cons_of_mem _ hy)) h1.2 h2.2 with ⟨a1, a2, a3, a7⟩ | ⟨j, e', x, a1, a2, a3, a4, a5, a6, a7⟩
      · refine .inl ⟨by simp [mget, q, a1], ?_, fun v => by simp [mput, q, a3], by simp [midx, q, a7]⟩
        simp only [Instr.findAsking, ek, Sem.run_bind, he, Result.andThen_ok, hd]
        simpa using a2
      · refine .inr ⟨j + 1, e', x, by simp [mget, q, a1], ?_, by simpa using a3, a4, a5, fun v => by simp [mput, q, a6], by simp [midx, q, a7]⟩
        simp only [Instr.findAsking, ek, Sem.run_bind, he, Result.andThen_ok, hd]
        rw [show i + (j + 1) = i + 1 + j by omega]
        simpa using a2
theorem findKey_run (hK : KeyTy P kt n) {E : Env} {h : Heap} {w : World} {k : List Int} (hk : k.length = n) (m : KMap) (es : List MapEntry) (hl : keysLen n m)
    (h1 : RepL E h w ((mapH m).map (·.1)) (es.map (·.key))) (h2 : RepL E h w ((mapH m).map (·.2)) (es.map (·.val))) :
    (mget k m = none ∧ (Instr.findKey kt (keyV k) es).run P w = .ok none w ∧ (∀ v, mput k v m = m ++ [(k, v)]) ∧ midx k m = m.length) ∨
    (∃ j e x, mget k m = some x ∧ (Instr.findKey kt (keyV k) es).run P w = .ok (some (j, e.val)) w ∧ es[j]? = some e ∧ Rep E h w x e.val ∧ e.key = keyV k ∧ (∀ v, mput k v m = m.set j (k, v)) ∧ midx k m = j) := by
  obtain ⟨u, hu, hw⟩ := hK.wide
  have key : (Instr.findKey kt (keyV k) es).run P w = (Instr.findAsking kt (keyV k) es).run P w := by
    cases es with
    | nil => simp [Instr.findKey, underlying, hu, Instr.findNow, Instr.findAsking]
    | cons e es => simp [Instr.findKey, underlying, hu, Instr.findNow, hw]
  have := find_run hK (E := E) (h := h) (w := w) hk m es 0 hl h1 h2
  simp only [Nat.zero_add] at this
  rw [key]; exact this
end

def dX (P : Program) (t : TypeId) : Option TyD := (tyR P t).map (·.d)
def int0 (P : Program) (t : TypeId) : Bool := match (P.info? t).bind (·.zero) with | some (.int .i64 0) => true | _ => false
theorem int0_run {P : Program} {t : TypeId} (h : int0 P t = true) (w : World) : (zeroValue t).run P w = .ok (.int .i64 0) w := by
  unfold int0 at h
  split at h
  · rename_i e
    obtain ⟨i, hi, hz⟩ := Option.bind_eq_some_iff.1 e
    simp [zeroValue, typeInfo, hi, hz]
  · cases h
def lkR (ok : Bool) (x : Option HVal) : HVal := match ok, x with
  | true, some x => .tup [x, .bool true]
  | true, none => .tup [.int .i64 0, .bool false]
  | false, some x => x
  | false, none => .int .i64 0
theorem BornOK.push {es : Array MapEntry} {c : Nat} (h : BornOK es c) {e : MapEntry} (he : e.born = c) : BornOK (es.push e) (c + 1) := by
  refine ⟨by rw [Array.size_push, h.1], fun j x hx => ?_⟩
  rw [Array.getElem?_push] at hx
  split at hx
  · rename_i q
    obtain rfl := Option.some.inj hx
    rw [he, h.1, q]
  · exact h.2 j x hx
theorem BornOK.modify {es : Array MapEntry} {c j : Nat} {f : MapEntry → MapEntry} (h : BornOK es c) (hf : ∀ e, (f e).born = e.born) : BornOK (es.modify j f) c := by
  refine ⟨by rw [Array.size_modify, h.1], fun i x hx => ?_⟩
  rw [Array.getElem?_modify] at hx
  split at hx
  · rename_i q
    obtain ⟨e, h3, h4⟩ := Option.map_eq_some_iff.1 hx
    rw [← h4, hf, h.2 i e (q ▸ h3)]
  · exact h.2 i x hx
theorem BornOK.find {es : Array MapEntry} {c j : Nat} (h : BornOK es c) (hj : j < es.size) : es.findIdx? (fun e => (e.born : Int) == (j : Int)) = some j := by
  rw [Array.findIdx?_eq_some_iff_getElem]
  refine ⟨hj, ?_, fun i hi => ?_⟩
  · rw [h.2 j _ (Array.getElem?_eq_getElem hj)]; simp
  · rw [h.2 i _ (Array.getElem?_eq_getElem (by omega))]
    intro q
    have : (i : Int) = (j : Int) := by simpa using q
    omega
/-- A look into a map. -/
def stepLk (P : Program) (d : Option TyD) (m k : HVal) (ok : Bool) (h : Heap) (K : HVal → Prop) : Prop :=
  match d, m, k with
  | some (.map kt et), .mp n, .agg cs => (match h n with
    | some (.map _ _ l) => ∃ (ks : List Int) (mm : KMap), cs = ks.map (HVal.int .i64) ∧ l = mapH mm ∧ keysLen ks.length mm ∧ KeyTy P kt ks.length ∧ int0 P et = true ∧ K (lkR ok (mget ks mm))
    | _ => False)
  | _, _, _ => False
/-- A store into a map. -/
def stepMu (P : Program) (d : Option TyD) (m k v : HVal) (h : Heap) (K : Heap → Prop) : Prop :=
  match d, m, k with
  | some (.map kt et), .mp n, .agg cs => (match h n with
    | some (.map a b l) => ∃ (ks : List Int) (mm : KMap), cs = ks.map (HVal.int .i64) ∧ l = mapH mm ∧ keysLen ks.length mm ∧ KeyTy P kt ks.length ∧ K (upd h n (.map 0 0 (mapH (mput ks v mm))))
    | _ => False)
  | _, _, _ => False

section
variable {P : Program} {o : Oper} {ρ : Operand → HVal} {h : Heap} {K : HVal → Heap → Prop}
theorem opw_makeMap (t : TypeId) (ho : o.op = .makeMap t none) (hk : ∀ n, h n = none → K (.mp n) (upd h n (.map 0 0 []))) : OpW P o ρ h K := by
  intro E w ρc R hρ
  obtain ⟨n, hn⟩ := R.fresh
  refine .of_value (v := .map (some w.heap.size)) (w' := wal w (.map #[] 0) w.drawn) ?_ ⟨.mp n, _, E.add n w.heap.size, hk n (R.none hn), Ev.alloc R hn _ _ _, R.alloc_obj hn _ _ _ ⟨w.heap.size, 0, by simp [Env.add], ?_⟩, ?_⟩
  · simp only [execOp, ho, Instr.makeMap, Option.map_none, Sem.run_bind, run_newObj, Result.andThen_ok, Sem.run_pure, wal_alloc]
  · exact ⟨by simp [Env.add], #[], 0, wal_new _ _ _, ⟨rfl, fun j e h => by simp at h⟩, trivial, trivial⟩
  · exact .mp n w.heap.size 0 (.inl rfl) (by simp [Env.add])

theorem opw_lookup (t : TypeId) (m k : Operand) (ok : Bool) (ho : o.op = .lookup t m k ok) (hs : stepLk P (dX P t) (ρ m) (ρ k) ok h fun v => K v h) : OpW P o ρ h K := by
  unfold stepLk at hs
  split at hs
  · rename_i kt et n cs hd em ek
    split at hs
    · rename_i a b l hn
      obtain ⟨ks, mm, rfl, rfl, hl, hK, h0, hk⟩ := hs
      refine opw_of_value hk fun E w ρc R hρ => ?_
      obtain ⟨r, hr, hd⟩ := Option.map_eq_some_iff.1 hd
      obtain ⟨u, hu, hd', hrun⟩ := run_underlying' (w := w) hr
      have hum : u = .map kt et := by
        rw [hd] at hd'
        cases u <;> simp [tyD] at hd' ⊢ <;> first | exact hd' | (split at hd' <;> simp at hd')
      subst hum
      have rm := em ▸ hρ m
      have rk0 : Rep E h w (keyH ks) (ρc k) := by have := hρ k; rw [ek] at this; exact this
      have rk := rep_key rk0
      have rk1 : Rep E h w (keyH ks) (keyV ks) := by rw [← rk]; exact rk0
      obtain ⟨c, o', es, clock, hv, hf, hh, hc, h1, h2, hlo⟩ : ∃ c o es clock, ρc m = .map (some c) ∧ E.fp n c ∧ w.heap[c]? = some (.map es clock) ∧ BornOK es clock ∧ RepL E h w ((mapH mm).map (·.1)) (es.toList.map (·.key)) ∧ RepL E h w ((mapH mm).map (·.2)) (es.toList.map (·.val)) ∧ E.loc n = some (c, o) := by
        generalize ρc m = v at rm
        cases rm with
        | mp _ b o hd hl =>
          obtain ⟨b', o', hl', hf, es, clock, hh, hc, h1, h2⟩ := R.obj n _ hn
          rw [hl] at hl'
          obtain ⟨rfl, rfl⟩ := Prod.mk.inj (Option.some.inj hl')
          exact ⟨b, o, es, clock, rfl, hf, hh, hc, h1, h2, hl⟩
      have hg : (getObj c).run P w = .ok (.map es clock) w := by simp [getObj, Sem.run, hh]
      have hchk := hK.chk es.isEmpty w ks rfl
      rcases findKey_run hK rfl mm es.toList hl h1 h2 with ⟨a1, a2, _, _⟩ | ⟨j, e, x, a1, a2, a3, a4, _, _, _⟩
      · refine ⟨if ok then .tuple #[.int .i64 0, .bool false] else .int .i64 0, ?_, ?_⟩
        · simp only [execOp, ho, Instr.lookup, Sem.run_bind, hrun, Result.andThen_ok, hv, hg, rk, hchk, a2, int0_run h0, Sem.run_pure]
        · rw [a1]
          cases ok
          · exact .int _ _
          · exact .tup _ [.int .i64 0, .bool false] rfl (RepL.get ⟨.int _ _, .bool _, trivial⟩)
      · refine ⟨if ok then .tuple #[e.val, .bool true] else e.val, ?_, ?_⟩
        · simp only [execOp, ho, Instr.lookup, Sem.run_bind, hrun, Result.andThen_ok, hv, hg, rk, hchk, a2, Sem.run_pure]
        · rw [a1]
          cases ok
          · exact a4
          · exact .tup _ [e.val, .bool true] rfl (RepL.get ⟨a4, .bool _, trivial⟩)
    · exact hs.elim
  · exact hs.elim

theorem sameBits_key (k : List Int) : Instr.sameBits 10000 (keyV k) (keyV k) = true := by
  unfold keyV
  simp only [Instr.sameBits, beq_self_eq_true, Bool.true_and, List.all_eq_true]
  intro p hp
  have : ∀ (l : List Value) p, p ∈ l.zip l → p.1 = p.2 ∧ p.1 ∈ l := by
    intro l
    induction l with
    | nil => intro p hp; simp at hp
    | cons a l ih =>
      intro p hp
      simp only [List.zip_cons_cons, List.mem_cons] at hp
      rcases hp with rfl | hp
      · exact ⟨rfl, List.mem_cons_self⟩
      · exact ⟨(ih p hp).1, List.mem_cons_of_mem _ (ih p hp).2⟩
  obtain ⟨e, hm⟩ := this _ p hp
  simp only [List.mem_map] at hm
  obtain ⟨n, _, hn⟩ := hm
  obtain ⟨a, b⟩ := p
  simp only at e hn ⊢
  rw [← e, ← hn]
  simp [Instr.sameBits]

theorem RepL.setAt {E : Env} {h : Heap} {w : World} {x : HVal} {v : Value} (r : Rep E h w x v) : ∀ {xs : List HVal} {vs : List Value}, RepL E h w xs vs → ∀ j, RepL E h w (xs.set j x) (vs.set j v)
  | [], [], _, _ => trivial
  | _ :: _, _ :: _, hh, 0 => ⟨r, hh.2⟩
  | _ :: _, _ :: _, hh, j + 1 => ⟨hh.1, RepL.setAt r hh.2 j⟩
  | [], _ :: _, hh, _ => hh.elim
  | _ :: _, [], hh, _ => hh.elim

theorem opw_mapUpdate (t : TypeId) (m k x : Operand) (ho : o.op = .mapUpdate t m k x ∨ o.op = .insert t m k x) (hs : stepMu P (dX P t) (ρ m) (ρ k) (ρ x) h fun h' => K .any h') : OpW P o ρ h K := by
  unfold stepMu at hs
  split at hs
  · rename_i kt et n cs hd em ek
    split at hs
    · rename_i a b l hn
      obtain ⟨ks, mm, rfl, rfl, hl, hK, hk⟩ := hs
      intro E w ρc R hρ
      obtain ⟨r, hr, hd⟩ := Option.map_eq_some_iff.1 hd
      obtain ⟨u, hu, hd', hrun⟩ := run_underlying' (w := w) hr
      have hum : u = .map kt et := by
        rw [hd] at hd'
        cases u <;> simp [tyD] at hd' ⊢ <;> first | exact hd' | (split at hd' <;> simp at hd')
      subst hum
      have rm := em ▸ hρ m
      have rk0 : Rep E h w (keyH ks) (ρc k) := by have := hρ k; rw [ek] at this; exact this
      have rk := rep_key rk0
      have rk1 : Rep E h w (keyH ks) (keyV ks) := by rw [← rk]; exact rk0
      obtain ⟨c, o', es, clock, hv, hf, hh, hc, h1, h2, hlo⟩ : ∃ c o es clock, ρc m = .map (some c) ∧ E.fp n c ∧ w.heap[c]? = some (.map es clock) ∧ BornOK es clock ∧ RepL E h w ((mapH mm).map (·.1)) (es.toList.map (·.key)) ∧ RepL E h w ((mapH mm).map (·.2)) (es.toList.map (·.val)) ∧ E.loc n = some (c, o) := by
        generalize ρc m = v at rm
        cases rm with
        | mp _ b o hd hl =>
          obtain ⟨b', o', hl', hf, es, clock, hh, hc, h1, h2⟩ := R.obj n _ hn
          rw [hl] at hl'
          obtain ⟨rfl, rfl⟩ := Prod.mk.inj (Option.some.inj hl')
          exact ⟨b, o, es, clock, rfl, hf, hh, hc, h1, h2, hl⟩
      have hg : (getObj c).run P w = .ok (.map es clock) w := by simp [getObj, Sem.run, hh]
      have hchk := hK.chk false w ks rfl
      have hso : ∀ ob : Obj, (setObj c ob).run P w = .ok () { w with heap := w.heap.setIfInBounds c ob } := fun ob => by simp [setObj, Sem.run, hh]
      have hlt : c < w.heap.size := (Array.getElem?_eq_some_iff.1 hh).1
      have fin : ∀ (es' : Array MapEntry) (clock' : Nat), (execOp ρc o).run P w = .ok .skip { w with heap := w.heap.setIfInBounds c (.map es' clock') } → BornOK es' clock' →
          RepL E h w ((mapH (mput ks (ρ x) mm)).map (·.1)) (es'.toList.map (·.key)) → RepL E h w ((mapH (mput ks (ρ x) mm)).map (·.2)) (es'.toList.map (·.val)) →
          Runs P o ρc w (After K E h w) := by
        intro es' clock' hx hb q1 q2
        have hoth : ∀ d, d ≠ c → ({ w with heap := w.heap.setIfInBounds c (.map es' clock') } : World).heap[d]? = w.heap[d]? := fun d hd => by
          simp only [Array.getElem?_setIfInBounds]; rw [if_neg fun q => hd q.symm]
        have hat : ({ w with heap := w.heap.setIfInBounds c (.map es' clock') } : World).heap[c]? = some (.map es' clock') := by
          simp [hlt]
        have hsh : ({ w with heap := w.heap.setIfInBounds c (.map es' clock') } : World).shape? c = w.shape? c := by
          simp only [World.shape?, hat, hh]
        have hsz : ({ w with heap := w.heap.setIfInBounds c (.map es' clock') } : World).heap.size = w.heap.size := by simp
        have ev := Ev.write (w' := { w with heap := w.heap.setIfInBounds c (.map es' clock') }) R hn trivial hf (.map 0 0 (mapH (mput ks (ρ x) mm))) trivial hsz hoth hsh rfl rfl
        exact .of_skip hx ⟨.any, _, E, hk, ev, R.write hn trivial hf (.map 0 0 (mapH (mput ks (ρ x) mm))) trivial hsz hoth hsh rfl rfl ⟨c, o', hlo, hf, es', clock', hat, hb, q1.ev ev, q2.ev ev⟩, .any _⟩
      have ex : (execOp ρc o).run P w = (Instr.mapUpdate t (ρc m) (ρc k) (ρc x) >>= fun _ => pure Next.skip).run P w := by
        rcases ho with ho | ho <;> simp [execOp, ho]
      rcases findKey_run hK rfl mm es.toList hl h1 h2 with ⟨a1, a2, a3, _⟩ | ⟨j, e, y, a1, a2, a3, a4, a5, a6, _⟩
      · refine fin (es.push { key := keyV ks, val := ρc x, born := clock }) (clock + 1) ?_ ?_ ?_ ?_
        · rw [ex]
          simp only [Instr.mapUpdate, Sem.run_bind, hrun, Result.andThen_ok, hv, hg, rk, hchk, a2, hso, Sem.run_pure]
        · exact hc.push rfl
        · rw [a3]
          simp only [mapH, List.map_append, List.map_cons, List.map_nil, Array.toList_push] at h1 ⊢
          exact h1.append ⟨rk1, trivial⟩
        · rw [a3]
          simp only [mapH, List.map_append, List.map_cons, List.map_nil, Array.toList_push] at h2 ⊢
          exact h2.append ⟨hρ x, trivial⟩
      · have hj : es[j]? = some e := by rw [← a3]; simp
        refine fin (es.modify j fun e => { e with key := keyV ks, val := ρc x }) clock ?_ ?_ ?_ ?_
        · rw [ex]
          have hst : (Instr.keyThatStays (keyV ks) (keyV ks)).run P w = .ok (keyV ks) w := by simp [Instr.keyThatStays, sameBits_key]
          simp only [Instr.mapUpdate, Sem.run_bind, hrun, Result.andThen_ok, hv, hg, rk, hchk, a2, hj, Option.map_some, Option.getD_some, a5, hst, hso, Sem.run_pure]
        · exact hc.modify fun _ => rfl
        · rw [a6]
          have : (es.modify j fun e => { e with key := keyV ks, val := ρc x }).toList.map (·.key) = (es.toList.map (·.key)).set j (keyV ks) := by
            apply List.ext_getElem?
            intro i
            simp only [List.getElem?_map, Array.getElem?_toList, Array.getElem?_modify, List.getElem?_set]
            split
            · rename_i q; subst q; simp [hj, (Array.getElem?_eq_some_iff.1 hj).1]
            · rfl
          rw [this]
          have h3 := h1.setAt rk1 j
          simpa [mapH, List.map_set] using h3
        · rw [a6]
          have : (es.modify j fun e => { e with key := keyV ks, val := ρc x }).toList.map (·.val) = (es.toList.map (·.val)).set j (ρc x) := by
            apply List.ext_getElem?
            intro i
            simp only [List.getElem?_map, Array.getElem?_toList, Array.getElem?_modify, List.getElem?_set]
            split
            · rename_i q; subst q; simp [hj, (Array.getElem?_eq_some_iff.1 hj).1]
            · rfl
          rw [this]
          have h3 := h2.setAt (hρ x) j
          simpa [mapH, List.map_set] using h3
    · exact hs.elim
  · exact hs.elim

theorem rel_mp {E : Env} {w : World} (R : Rel E h w) {n : Nat} {a b : TypeId} {l : List (HVal × HVal)} (hn : h n = some (.map a b l)) {v : Value} (r : Rep E h w (.mp n) v) : ∃ c o es clock, v = .map (some c) ∧ E.fp n c ∧ w.heap[c]? = some (.map es clock) ∧ BornOK es clock ∧ RepL E h w (l.map (·.1)) (es.toList.map (·.key)) ∧ RepL E h w (l.map (·.2)) (es.toList.map (·.val)) ∧ E.loc n = some (c, o) := by
  cases r with
  | mp _ b o hd hl =>
    obtain ⟨b', o', hl', hf, es, clock, hh, hc, h1, h2⟩ := R.obj n _ hn
    rw [hl] at hl'
    obtain ⟨rfl, rfl⟩ := Prod.mk.inj (Option.some.inj hl')
    exact ⟨b, o, es, clock, rfl, hf, hh, hc, h1, h2, hl⟩
theorem map_wr {E : Env} {w : World} (R : Rel E h w) {n : Nat} {a b : TypeId} {l l' : List (HVal × HVal)} (hn : h n = some (.map a b l)) {c o : Nat} {es es' : Array MapEntry} {clock clock' : Nat} (hf : E.fp n c) (hh : w.heap[c]? = some (.map es clock)) (hlo : E.loc n = some (c, o))
    (hb : BornOK es' clock') (q1 : RepL E h w (l'.map (·.1)) (es'.toList.map (·.key))) (q2 : RepL E h w (l'.map (·.2)) (es'.toList.map (·.val))) :
    Ev E h w E (upd h n (.map 0 0 l')) { w with heap := w.heap.setIfInBounds c (.map es' clock') } ∧ Rel E (upd h n (.map 0 0 l')) { w with heap := w.heap.setIfInBounds c (.map es' clock') } := by
  have hlt : c < w.heap.size := (Array.getElem?_eq_some_iff.1 hh).1
  have hoth : ∀ d, d ≠ c → ({ w with heap := w.heap.setIfInBounds c (.map es' clock') } : World).heap[d]? = w.heap[d]? := fun d hd => by
    simp only [Array.getElem?_setIfInBounds]; rw [if_neg fun q => hd q.symm]
  have hat : ({ w with heap := w.heap.setIfInBounds c (.map es' clock') } : World).heap[c]? = some (.map es' clock') := by
    simp [hlt]
  have hsh : ({ w with heap := w.heap.setIfInBounds c (.map es' clock') } : World).shape? c = w.shape? c := by
    simp only [World.shape?, hat, hh]
  have hsz : ({ w with heap := w.heap.setIfInBounds c (.map es' clock') } : World).heap.size = w.heap.size := by simp
  have ev := Ev.write (w' := { w with heap := w.heap.setIfInBounds c (.map es' clock') }) R hn trivial hf (.map 0 0 l') trivial hsz hoth hsh rfl rfl
  exact ⟨ev, R.write hn trivial hf (.map 0 0 l') trivial hsz hoth hsh rfl rfl ⟨c, o, hlo, hf, es', clock', hat, hb, q1.ev ev, q2.ev ev⟩⟩
def meR (k : List Int) (mm : KMap) : HVal := (mget k mm).getD (.int .i64 0)
/-- An entry's place in a map, made where there is none. -/
def stepMe (P : Program) (d : Option TyD) (m k : HVal) (h : Heap) (K : HVal → Heap → Prop) : Prop :=
  match d, m, k with
  | some (.map kt et), .mp n, .agg cs => (match h n with
    | some (.map a b l) => ∃ (ks : List Int) (mm : KMap), cs = ks.map (HVal.int .i64) ∧ l = mapH mm ∧ keysLen ks.length mm ∧ KeyTy P kt ks.length ∧ int0 P et = true ∧ K (.tup [meR ks mm, .int .i64 (midx ks mm : Nat)]) (upd h n (.map 0 0 (mapH (mput ks (meR ks mm) mm))))
    | _ => False)
  | _, _, _ => False
/-- A store at an entry's place. -/
def stepEs (m s v : HVal) (h : Heap) (K : Heap → Prop) : Prop :=
  match m with
  | .mp n => (match h n with
    | some (.map a b l) => ∃ (j : Nat) (mm : KMap), s = .int .i64 j ∧ l = mapH mm ∧ j < mm.length ∧ K (upd h n (.map 0 0 (mapH (mset j v mm))))
    | _ => False)
  | _ => False
theorem opw_mapEntry (t : TypeId) (m k : Operand) (ho : o.op = .mapEntry t m k) (hs : stepMe P (dX P t) (ρ m) (ρ k) h K) : OpW P o ρ h K := by
  unfold stepMe at hs
  split at hs
  · rename_i kt et n cs hd em ek
    split at hs
    · rename_i a b l hn
      obtain ⟨ks, mm, rfl, rfl, hl, hK, h0, hk⟩ := hs
      intro E w ρc R hρ
      obtain ⟨r, hr, hd⟩ := Option.map_eq_some_iff.1 hd
      obtain ⟨u, hu, hd', hrun⟩ := run_underlying' (w := w) hr
      have hum : u = .map kt et := by
        rw [hd] at hd'
        cases u <;> simp [tyD] at hd' ⊢ <;> first | exact hd' | (split at hd' <;> simp at hd')
      subst hum
      have rk0 : Rep E h w (keyH ks) (ρc k) := by have := hρ k; rw [ek] at this; exact this
      have rk := rep_key rk0
      have rk1 : Rep E h w (keyH ks) (keyV ks) := by rw [← rk]; exact rk0
      obtain ⟨c, o', es, clock, hv, hf, hh, hc, h1, h2, hlo⟩ := rel_mp R hn (em ▸ hρ m)
      have hg : (getObj c).run P w = .ok (.map es clock) w := by simp [getObj, Sem.run, hh]
      have hchk := hK.chk false w ks rfl
      have hso : ∀ ob : Obj, (setObj c ob).run P w = .ok () { w with heap := w.heap.setIfInBounds c ob } := fun ob => by simp [setObj, Sem.run, hh]
      have hsz : es.size = mm.length := by
        have := h1.length; simpa [mapH] using this.symm
      rcases findKey_run hK rfl mm es.toList hl h1 h2 with ⟨a1, a2, a3, a7⟩ | ⟨j, e, y, a1, a2, a3, a4, a5, a6, a7⟩
      · have hz := int0_run h0 w
        obtain ⟨ev, R'⟩ := map_wr R hn (l' := mapH (mput ks (.int .i64 0) mm)) (es' := es.push { key := keyV ks, val := .int .i64 0, born := clock }) (clock' := clock + 1) hf hh hlo (hc.push rfl) (by
          rw [a3]
          simp only [mapH, List.map_append, List.map_cons, List.map_nil, Array.toList_push] at h1 ⊢
          exact h1.append ⟨rk1, trivial⟩) (by
          rw [a3]
          simp only [mapH, List.map_append, List.map_cons, List.map_nil, Array.toList_push] at h2 ⊢
          exact h2.append ⟨.int _ _, trivial⟩)
        have hme : meR ks mm = .int .i64 0 := by rw [meR, a1]; rfl
        rw [hme] at hk
        refine .of_value (v := .tuple #[.int .i64 0, goInt clock]) (w' := { w with heap := w.heap.setIfInBounds c (.map (es.push { key := keyV ks, val := .int .i64 0, born := clock }) (clock + 1)) }) ?_ ⟨_, _, E, hk, ev, R', .tup _ [.int .i64 0, goInt clock] rfl (RepL.get ⟨.int _ _, ?_, trivial⟩)⟩
        · simp only [execOp, ho, Instr.mapEntry, Sem.run_bind, hrun, Result.andThen_ok, hv, hg, rk, hchk, a2, hz, hso, Sem.run_pure]
        · rw [a7, ← hsz, ← hc.1]; exact .int _ _
      · have hj : es[j]? = some e := by rw [← a3]; simp
        have hst : (Instr.keyThatStays (keyV ks) (keyV ks)).run P w = .ok (keyV ks) w := by simp [Instr.keyThatStays, sameBits_key]
        have hme : meR ks mm = y := by rw [meR, a1]; rfl
        obtain ⟨ev, R'⟩ := map_wr R hn (l' := mapH (mput ks y mm)) (es' := es.modify j fun e => { e with key := keyV ks }) (clock' := clock) hf hh hlo (hc.modify fun _ => rfl) (by
          rw [a6]
          have : (es.modify j fun e => { e with key := keyV ks }).toList.map (·.key) = (es.toList.map (·.key)).set j (keyV ks) := by
            apply List.ext_getElem?
            intro i
            simp only [List.getElem?_map, Array.getElem?_toList, Array.getElem?_modify, List.getElem?_set]
            split
            · rename_i q; subst q; simp [hj, (Array.getElem?_eq_some_iff.1 hj).1]
            · rfl
          rw [this]
          have h3 := h1.setAt rk1 j
          simpa [mapH, List.map_set] using h3) (by
          rw [a6]
          have : (es.modify j fun e => { e with key := keyV ks }).toList.map (·.val) = (es.toList.map (·.val)).set j e.val := by
            apply List.ext_getElem?
            intro i
            simp only [List.getElem?_map, Array.getElem?_toList, Array.getElem?_modify, List.getElem?_set]
            split
            · rename_i q; subst q; simp [(Array.getElem?_eq_some_iff.1 hj).1, (Array.getElem?_eq_some_iff.1 hj).2]
            · rfl
          rw [this]
          have h3 := h2.setAt a4 j
          simpa [mapH, List.map_set] using h3)
        rw [hme] at hk
        refine .of_value (v := .tuple #[e.val, goInt e.born]) (w' := { w with heap := w.heap.setIfInBounds c (.map (es.modify j fun e => { e with key := keyV ks }) clock) }) ?_ ⟨_, _, E, hk, ev, R', .tup _ [e.val, goInt e.born] rfl (RepL.get ⟨a4.ev ev, ?_, trivial⟩)⟩
        · simp only [execOp, ho, Instr.mapEntry, Sem.run_bind, hrun, Result.andThen_ok, hv, hg, rk, hchk, a2, hj, Option.map_some, Option.getD_some, a5, hst, hso, Sem.run_pure]
        · rw [a7, hc.2 j e hj]; exact .int _ _
    · exact hs.elim
  · exact hs.elim
theorem opw_entryStore (t : TypeId) (m s x : Operand) (ho : o.op = .entryStore t m s x) (hs : stepEs (ρ m) (ρ s) (ρ x) h fun h' => K .any h') : OpW P o ρ h K := by
  unfold stepEs at hs
  split at hs
  · rename_i n em
    split at hs
    · rename_i a b l hn
      obtain ⟨j, mm, es', rfl, hj, hk⟩ := hs
      intro E w ρc R hρ
      obtain ⟨c, o', es, clock, hv, hf, hh, hc, h1, h2, hlo⟩ := rel_mp R hn (em ▸ hρ m)
      have rs := rep_int (es' ▸ hρ s)
      have hg : (getObj c).run P w = .ok (.map es clock) w := by simp [getObj, Sem.run, hh]
      have hso : ∀ ob : Obj, (setObj c ob).run P w = .ok () { w with heap := w.heap.setIfInBounds c ob } := fun ob => by simp [setObj, Sem.run, hh]
      have hsz : es.size = mm.length := by
        have := h1.length; simpa [mapH] using this.symm
      have hfi := hc.find (j := j) (by omega)
      obtain ⟨p, hp, hm⟩ := mset_eq (v := ρ x) hj
      have hje : es[j]? = some es[j] := Array.getElem?_eq_getElem (by omega)
      obtain ⟨ev, R'⟩ := map_wr R hn (l' := mapH (mset j (ρ x) mm)) (es' := es.modify j fun e => { e with val := ρc x }) (clock' := clock) hf hh hlo (hc.modify fun _ => rfl) (by
          have e1 : (mapH (mset j (ρ x) mm)).map (·.1) = (mapH mm).map (·.1) := by
            rw [hm]
            apply List.ext_getElem?
            intro i
            simp only [mapH, List.map_set, List.getElem?_map, List.getElem?_set, List.length_map]
            split
            · rename_i q; subst q; simp [hj, (List.getElem?_eq_some_iff.1 hp).2]
            · rfl
          have e2 : (es.modify j fun e => { e with val := ρc x }).toList.map (·.key) = es.toList.map (·.key) := by
            apply List.ext_getElem?
            intro i
            simp only [List.getElem?_map, Array.getElem?_toList, Array.getElem?_modify]
            split
            · rename_i q; subst q; simp [hje]
            · rfl
          rw [e1, e2]; exact h1) (by
          have e2 : (es.modify j fun e => { e with val := ρc x }).toList.map (·.val) = (es.toList.map (·.val)).set j (ρc x) := by
            apply List.ext_getElem?
            intro i
            simp only [List.getElem?_map, Array.getElem?_toList, Array.getElem?_modify, List.getElem?_set]
            split
            · rename_i q; subst q; simp [hje, (Array.getElem?_eq_some_iff.1 hje).1]
            · rfl
          rw [hm, e2]
          have h3 := h2.setAt (hρ x) j
          simpa [mapH, List.map_set] using h3)
      refine .of_skip (w' := { w with heap := w.heap.setIfInBounds c (.map (es.modify j fun e => { e with val := ρc x }) clock) }) ?_ ⟨.any, _, E, hk, ev, R', .any _⟩
      simp only [execOp, ho, Instr.entryStore, Sem.run_bind, Result.andThen_ok, hv, hg, rs, asInt, asIntOf, hfi, hso, Sem.run_pure]
    · exact hs.elim
  · exact hs.elim

theorem opw_makeIfc (t : TypeId) (x : Operand) (r : TyR) (ho : o.op = .makeInterface t x) (hr : tyR P t = some r) (hd : (∃ e, r.d = .ptr e) ∨ ∃ fs, r.d = .st fs) (hk : K (.iface t (ρ x)) h) : OpW P o ρ h K :=
  opw_of_value hk fun E w ρc R hρ => by
    obtain ⟨u, hu, hd', hrun⟩ := run_underlying' (w := w) hr
    refine ⟨.iface t (ρc x), ?_, .iface t _ _ (hρ x)⟩
    have hnot : ∀ ms, u ≠ .interface ms := by
      intro ms e
      subst e
      rcases hd with ⟨e, hd⟩ | ⟨fs, hd⟩ <;> rw [hd] at hd' <;> simp [tyD] at hd'
    simp only [execOp, ho, Instr.makeInterface, Sem.run_bind, hrun, Result.andThen_ok]
    cases u <;> first | (simp; done) | (rename_i ms; exact absurd rfl (hnot ms))

theorem opw_assert (x : Operand) (xt t : TypeId) (v : HVal) (r : TyR) (fs : List (Nat × TypeId × Nat)) (ho : o.op = .typeAssert x xt t false) (hr : tyR P t = some r) (hd : r.d = .st fs) (hx : ρ x = .iface t v) (hk : K v h) : OpW P o ρ h K :=
  opw_of_value hk fun E w ρc R hρ => by
    obtain ⟨u, hu, hd', hrun⟩ := run_underlying' (w := w) hr
    have rx := hx ▸ hρ x
    generalize ex : ρc x = vx at rx
    cases rx with
    | iface _ _ v' hv =>
      refine ⟨v', ?_, hv⟩
      rw [hd] at hd'
      obtain ⟨gs, rfl, _, _⟩ := tyD_st hd'
      simp [execOp, ho, Instr.typeAssert, Sem.run_bind, hrun, ex]

/-- The method of a dynamic type: its function, and whether it takes the pointer. -/
def mRow (P : Program) (t : TypeId) (name : String) : Option (FuncId × Bool) :=
  match P.info? t with
  | some i => match i.methods.find? (·.name == name) with
    | some m => if m.path.isEmpty then m.func else none
    | none => none
  | none => none
def stepInv (P : Program) (x : HVal) (name : String) (args : List HVal) (h : Heap) (K : HVal → Heap → Prop) : Prop :=
  match x with
  | .iface t v => match dX P t, mRow P t name with
    | some (.ptr e), some (f, true) => HFn P f (v :: args) h K
    | some (.ptr e), some (f, false) => (match tyR P e, v with
      | some r, .op n sz i off => (match h n with
        | some (.row sz' es) => sz' = sz ∧ (match es[i]? with
          | some c => (match ldOwn r c off with
            | some y => HFn P f (y :: args) h K
            | none => False)
          | none => False)
        | _ => False)
      | _, _ => False)
    | _, _ => False
  | _ => False

theorem opw_enter (g : FuncId) (args : List HVal) (hx : ∀ E w (ρc : Operand → Value), Rel E h w → (∀ x, Rep E h w (ρ x) (ρc x)) → ∃ vs : List Value, RepL E h w args vs ∧ (execOp ρc o).run P w = (callFunc g vs.toArray).run P w)
    (hk : HFn P g args h K) : OpW P o ρ h K := by
  intro E w ρc R hρ
  obtain ⟨vs, hL, hex⟩ := hx E w ρc R hρ
  obtain ⟨hc, hk⟩ := hk
  unfold callable at hc
  cases hfn : P.funcs[g]? with
  | none => simp [hfn] at hc
  | some fn =>
    simp only [hfn, Bool.and_eq_true, Bool.not_eq_true', beq_eq_false_iff_ne, ne_eq] at hc
    have hb : fn.body.isNone = false := by cases hb : fn.body <;> simp_all
    have hrun : (execOp ρc o).run P w = .ok (.enter g vs.toArray) w := by
      have hb' : ¬ fn.body = none := by intro e; simp [e] at hb
      rw [hex]
      simp [callFunc, hfn, hc.2]
      exact fun q => absurd q hb'
    unfold Runs
    rw [hrun]
    exact Calls.mono (hk E w _ R hL) fun e w' he => by cases e <;> exact he

theorem run_wrap {w : World} (t : TypeId) (a : Addr) (s : String) : (Builtin.ssaWrapNilChk_ #[t] t #[.pointer (some a), strVal "", strVal s]).run P w = .ok (.pointer (some a)) w := rfl
theorem run_inv {w : World} {ρc : Operand → Value} {r : Operand} {name : String} {as : Array Operand} {ats : Array TypeId} {t : TypeId} {v z : Value} {f : FuncId} (ho : o.op = .call { callee := .invoke r name, args := as, argTypes := ats }) (ex : ρc r = .iface t v)
    (hm : (method (P.types.size + Made.depth) t v name).run P w = .ok (f, z) w) : (execOp ρc o).run P w = (callFunc f (z :: as.toList.map ρc).toArray).run P w := by
  have e0 : (#[Value.iface t v] ++ as.map ρc)[0]? = some (.iface t v) := by
    rw [← Array.getElem?_toList]; simp
  have e1 : (#[Value.iface t v] ++ as.map ρc).extract 1 (#[Value.iface t v] ++ as.map ρc).size = as.map ρc := by
    apply Array.ext'
    simp
    rw [List.take_of_length_le (by simp)]
  simp only [execOp, ho, resolve, Sem.run_bind, Sem.run_pure, Result.andThen_ok, invoke, ex, e0, e1, callMethod, program, Sem.run, hm]
  congr 2
  apply Array.ext'
  simp
theorem opw_invoke (r : Operand) (name : String) (as : Array Operand) (ats : Array TypeId) (ho : o.op = .call { callee := .invoke r name, args := as, argTypes := ats })
    (hs : stepInv P (ρ r) name (as.toList.map ρ) h K) : OpW P o ρ h K := by
  unfold stepInv at hs
  split at hs
  · rename_i t v hx
    have hfuel : ∃ n, P.types.size + Made.depth = n + 1 := ⟨P.types.size + 99, rfl⟩
    obtain ⟨fuel, hfuel⟩ := hfuel
    have row : ∀ {f : FuncId} {b : Bool}, mRow P t name = some (f, b) → ∃ i m, P.info? t = some i ∧ i.methods.find? (·.name == name) = some m ∧ m.path = #[] ∧ m.func = some (f, b) := by
      intro f b hm
      unfold mRow at hm
      split at hm
      · rename_i i hi
        split at hm
        · rename_i m hf
          split at hm
          · rename_i hp; exact ⟨i, m, hi, hf, by simpa using hp, hm⟩
          · cases hm
        · cases hm
      · cases hm
    split at hs
    · rename_i e f hd hm
      obtain ⟨i, m, hi, hf, hp, hfu⟩ := row hm
      obtain ⟨rt, hrt, hd⟩ := Option.map_eq_some_iff.1 hd
      refine opw_enter f _ (fun E w ρc R hρ => ?_) hs
      obtain ⟨u, hu, hd', hrun⟩ := run_underlying' (w := w) hrt
      rw [hd] at hd'
      have hu' : u = .pointer e := by cases u <;> simp [tyD] at hd' ⊢ <;> first | exact hd' | (split at hd' <;> simp at hd')
      subst hu'
      have rx := hx ▸ hρ r
      generalize ex : ρc r = vx at rx
      cases rx with
      | iface _ _ v' hv =>
        refine ⟨v' :: as.toList.map ρc, ⟨hv, repL_map hρ as.toList⟩, ?_⟩
        have hmeth : (method (P.types.size + Made.depth) t v' name).run P w = .ok (f, v') w := by
          rw [hfuel]
          simp [method, typeInfo, hi, hf, hp, follow, hfu, receiverAt, hrun, Place.get]
        exact run_inv ho ex hmeth
    · rename_i e f hd hm
      split at hs
      · rename_i re n sz k off hre
        split at hs
        · rename_i sz' es hn
          obtain ⟨rfl, hs⟩ := hs
          split at hs
          · rename_i c hc
            split at hs
            · rename_i y hy
              obtain ⟨i, m, hi, hf, hp, hfu⟩ := row hm
              obtain ⟨rt, hrt, hd⟩ := Option.map_eq_some_iff.1 hd
              refine opw_enter f _ (fun E w ρc R hρ => ?_) hs
              obtain ⟨u, hu, hd', hrun⟩ := run_underlying' (w := w) hrt
              rw [hd] at hd'
              have hu' : u = .pointer e := by cases u <;> simp [tyD] at hd' ⊢ <;> first | exact hd' | (split at hd' <;> simp at hd')
              subst hu'
              have rx := hx ▸ hρ r
              generalize ex : ρc r = vx at rx
              cases rx with
              | iface _ _ v' hv =>
                obtain ⟨b, o', z, hv', hload, hz⟩ := load_op_run R e re n sz' k off es c y hre hv hn hc hy
                refine ⟨z :: as.toList.map ρc, ⟨hz, repL_map hρ as.toList⟩, ?_⟩
                have hmeth : (method (P.types.size + Made.depth) t v' name).run P w = .ok (f, z) w := by
                  rw [hfuel]
                  simp [method, typeInfo, hi, hf, hp, follow, hfu, receiverAt, hrun, Place.get, hv', run_wrap, asAddr, hload]
                exact run_inv ho ex hmeth
            · exact hs.elim
          · exact hs.elim
        · exact hs.elim
      · exact hs.elim
    · exact hs.elim
  · exact hs.elim

/-- The operations that few programs use. -/
def stepX (P : Program) (op : Op) (ρ : Operand → HVal) (h : Heap) (K : HVal → Heap → Prop) : Prop :=
  match op with
  | .makeMap t none => ∀ n, h n = none → K (.mp n) (upd h n (.map 0 0 []))
  | .insert t m k x => stepMu P (dX P t) (ρ m) (ρ k) (ρ x) h fun h' => K .any h'
  | .mapUpdate t m k x => stepMu P (dX P t) (ρ m) (ρ k) (ρ x) h fun h' => K .any h'
  | .lookup t m k ok => stepLk P (dX P t) (ρ m) (ρ k) ok h fun v => K v h
  | .makeInterface t x => (match dX P t with
    | some (.ptr _) => K (.iface t (ρ x)) h
    | some (.st _) => K (.iface t (ρ x)) h
    | _ => False)
  | .typeAssert x xt t false => (match dX P t, ρ x with
    | some (.st _), .iface t' v => t' = t ∧ K v h
    | _, _ => False)
  | .mapEntry t m k => stepMe P (dX P t) (ρ m) (ρ k) h K
  | .entryStore t m s x => stepEs (ρ m) (ρ s) (ρ x) h fun h' => K .any h'
  | .call ⟨.invoke r name, as, _⟩ => stepInv P (ρ r) name (as.toList.map ρ) h K
  | _ => False
theorem stepX_sound {op : Op} (ho : o.op = op) (hs : stepX P op ρ h K) : OpW P o ρ h K := by
  unfold stepX at hs
  split at hs
  · exact opw_makeMap _ ho hs
  · exact opw_mapUpdate _ _ _ _ (.inr ho) hs
  · exact opw_mapUpdate _ _ _ _ (.inl ho) hs
  · exact opw_lookup _ _ _ _ ho hs
  · split at hs
    · rename_i e hd
      obtain ⟨r, hr, hd⟩ := Option.map_eq_some_iff.1 hd
      exact opw_makeIfc _ _ r ho hr (.inl ⟨_, hd⟩) hs
    · rename_i e hd
      obtain ⟨r, hr, hd⟩ := Option.map_eq_some_iff.1 hd
      exact opw_makeIfc _ _ r ho hr (.inr ⟨_, hd⟩) hs
    · exact hs.elim
  · split at hs
    · rename_i fs t' v hd hx
      obtain ⟨rfl, hk⟩ := hs
      obtain ⟨r, hr, hd⟩ := Option.map_eq_some_iff.1 hd
      exact opw_assert _ _ _ _ r fs ho hr hd hx hk
    · exact hs.elim
  · exact opw_mapEntry _ _ _ ho hs
  · exact opw_entryStore _ _ _ _ ho hs
  · exact opw_invoke _ _ _ _ ho hs
  · exact hs.elim
end

/-- The size of a slice type's elements. -/
def eszOf (P : Program) (t : TypeId) : Option TyR :=
  match tyR P t with
  | some r => match r.d with
    | .slice et => tyR P et
    | _ => none
  | none => none

theorem eszOf_some {P : Program} {t : TypeId} {re : TyR} (h : eszOf P t = some re) : ∃ r et, tyR P t = some r ∧ r.d = .slice et ∧ tyR P et = some re := by
  unfold eszOf at h
  split at h
  · rename_i r hr
    split at h
    · rename_i et hd; exact ⟨r, et, hr, hd, h⟩
    · simp at h
  · simp at h

def dOf (P : Program) (t : TypeId) : Option TyD := (tyR P t).map (·.d)
theorem dOf_some {P : Program} {t : TypeId} {d : TyD} (h : dOf P t = some d) : ∃ r, tyR P t = some r ∧ r.d = d := by
  unfold dOf at h
  obtain ⟨r, hr, rfl⟩ := Option.map_eq_some_iff.1 h
  exact ⟨r, hr, rfl⟩

def stepBin (P : Program) (op : BinOp) (t : TypeId) (x y : HVal) (K : HVal → Prop) : Prop :=
  match x, y with
  | .bool a, .bool b => dOf P t = some .bool ∧ (match op with | .eql => K (.bool (a == b)) | .neq => K (.bool (a != b)) | _ => False)
  | .int k a, .int k' b =>
    match op with
    | .quo => k = k' ∧ b ≠ 0 ∧ K (.int k (k.wrap (a.tdiv b)))
    | .rem => k = k' ∧ b ≠ 0 ∧ K (.int k (a.tmod b))
    | .shl => 0 ≤ b ∧ K (.int k (k.wrap (a * 2 ^ (min b.toNat k.bits))))
    | .shr => 0 ≤ b ∧ K (.int k (a.fdiv (2 ^ (min b.toNat k.bits))))
    | op => match binH op (.int k a) (.int k' b) with | some v => K v | none => False
  | .str a, .str b =>
    match op with
    | .add => a.length + b.length ≤ 9223372036854775807 ∧ K (.str (a ++ b))
    | .eql => K (.bool (decide (a = b)))
    | .neq => K (.bool (!decide (a = b)))
    | op => match strCmp op a b with | some c => K (.bool c) | none => False
  | .agg xs, .agg ys => aggTy P t = some (xs.map isB) ∧ (match op, aggEq xs ys with | .eql, some b => K (.bool b) | .neq, some b => K (.bool !b) | _, _ => False)
  | x, y => match binH op x y with | some v => K v | none => False

/-- .. and a slice beside nil: of an empty one nothing is known. -/
def stepBinN (P : Program) (op : BinOp) (t : TypeId) (x y : HVal) (K : HVal → Prop) : Prop :=
  match x, y with
  | .sl _ es _, .nilsl => (match dOf P t with | some (.slice _) => True | _ => False) ∧ (match op with | .eql => (es = [] → K (.bool true)) ∧ K (.bool false) | .neq => (es = [] → K (.bool false)) ∧ K (.bool true) | _ => False)
  | .os _ _ _ len, .nilsl => (match dOf P t with | some (.slice _) => True | _ => False) ∧ (match op with | .eql => (len = 0 → K (.bool true)) ∧ K (.bool false) | .neq => (len = 0 → K (.bool false)) ∧ K (.bool true) | _ => False)
  | .nilsl, .nilsl => (match dOf P t with | some (.slice _) => True | _ => False) ∧ (match op with | .eql => K (.bool true) | .neq => K (.bool false) | _ => False)
  | x, y => stepBin P op t x y K
/-- .. and an interface's value beside the literal nil. -/
def stepBinC (P : Program) (op : BinOp) (t : TypeId) (c : Bool) (x y : HVal) (K : HVal → Prop) : Prop :=
  match c, x, y with
  | true, .nilif, .nilif => isIfc P t = true ∧ (match op with | .eql => K (.bool true) | .neq => K (.bool false) | _ => False)
  | true, .iface _ _, .nilif => isIfc P t = true ∧ (match op with | .eql => K (.bool false) | .neq => K (.bool true) | _ => False)
  | _, x, y => stepBinN P op t x y K
def stepUn (op : UnOp) (x : HVal) (K : HVal → Prop) : Prop :=
  match op, x with
  | .not, .bool b => K (.bool (!b))
  | .neg, .int k n => K (.int k (k.wrap (0 - n)))
  | _, _ => False

def stepFA (d : Option TyD) (f : Nat) (x : HVal) (K : HVal → Prop) : Prop :=
  match d with
  | some (.st fs) => match fs[f]? with
    | some (off, _, sz') => sz' ≠ 0 ∧ (match x with
      | .op n sz i k => K (.op n sz i (k + off))
      | .ip sz es i k => K (.ip sz es i (k + off))
      | _ => False)
    | none => False
  | _ => False

def stepIA (re : Option TyR) (x i : HVal) (K : HVal → Prop) : Prop :=
  match re with
  | some re => match x, i with
    | .sl sz es _, .int _ n => re.sz = sz ∧ 0 ≤ n ∧ n < es.length ∧ K (.ip sz es n.toNat 0)
    | .os m sz i0 len, .int _ n => re.sz = sz ∧ 0 ≤ n ∧ n < len ∧ K (.op m sz (i0 + n.toNat) 0)
    | _, _ => False
  | none => False

def stepIx (d : Option TyD) (x i : HVal) (K : HVal → Prop) : Prop :=
  match d, x, i with
  | some .str, .str s, .int _ n => 0 ≤ n ∧ (match s[n.toNat]? with | some c => K (.int .u8 c.toNat) | none => False)
  | _, _, _ => False

def stepLd (r : Option TyR) (a : HVal) (h : Heap) (K : HVal → Prop) : Prop :=
  match r with
  | some r => match a with
    | .ip _ es i off => match es[i]? with
      | some e => match ld r e off with
        | some x => K x
        | none => False
      | none => False
    | .op n sz i off => match h n with
      | some (.row sz' es) => sz' = sz ∧ (match es[i]? with
        | some e => match ldOwn r e off with
          | some x => K x
          | none => False
        | none => False)
      | _ => False
    | _ => False
  | none => False

def stepSt (r : Option TyR) (a v : HVal) (h : Heap) (K : Heap → Prop) : Prop :=
  match r with
  | some r => match a with
    | .op n sz i off => match h n with
      | some (.row sz' es) => sz' = sz ∧ (match es[i]? with
        | some e => v.cells.all HVal.flat = true ∧ v.cells.length = r.sz ∧ off + r.sz ≤ e.length ∧ K (upd h n (.row sz (es.set i (stCells e off v.cells))))
        | none => False)
      | _ => False
    | _ => False
  | none => False

def stepAlloc (r : Option TyR) (h : Heap) (K : HVal → Heap → Prop) : Prop :=
  match r with
  | some r => r.zero ≠ [] ∧ r.zero.all HVal.flat = true ∧ ∀ n, h n = none → K (.op n r.zero.length 0 0) (upd h n (.row r.zero.length [r.zero.map .v]))
  | none => False

def stepBox (x : HVal) (h : Heap) (K : HVal → Heap → Prop) : Prop :=
  x.cells.all HVal.flat = true ∧ ∀ n, h n = none → K (.op n x.cells.length 0 0) (upd h n (.row x.cells.length [x.cells.map .v]))

def rawB (t : TypeId) : Bool := match rawTy with | none => false | some r => decide (t = r)
def stepRaw (t : TypeId) (x : HVal) (h : Heap) (K : HVal → Heap → Prop) : Prop :=
  x.cells = [.nilptr, .nilsl] ∧ ∀ n, h n = none → K (.op n 2 0 0) (upd h n (.raw t #[.pointer none, .slice none 0 0]))

def stepMake (re : Option TyR) (l c : HVal) (h : Heap) (K : HVal → Heap → Prop) : Prop :=
  match re with
  | some re => match l, c with
    | .int _ a, .int _ b => re.zero.length = re.sz ∧ 0 < re.sz ∧ re.zero.all HVal.flat = true ∧ 0 ≤ a ∧ a ≤ b ∧ b ≤ 281474976710656 ∧ re.bytes * b ≤ 281474976710656 ∧
        ∀ n, h n = none → K (.os n re.sz 0 a.toNat) (upd h n (.row re.sz ((List.replicate b.toNat re.zero).map (List.map .v))))
    | _, _ => False
  | none => False

def stepSlice (P : Program) (t : TypeId) (x : HVal) (lo hi : Option HVal) (K : HVal → Prop) : Prop :=
  match x with
  | .str s => dOf P t = some .str ∧ (match bndH 0 lo, bndH s.length hi with
    | some l, some m => 0 ≤ l ∧ l ≤ m ∧ m ≤ s.length ∧ K (.str ((s.take m.toNat).drop l.toNat))
    | _, _ => False)
  | .sl sz es tg => match eszOf P t with
    | some re => re.sz = sz ∧ (match bndH 0 lo, bndH es.length hi with
      | some l, some m => 0 ≤ l ∧ l ≤ m ∧ m ≤ es.length ∧ K (.sl sz ((es.take m.toNat).drop l.toNat) (tg && decide (m = es.length)))
      | _, _ => False)
    | none => False
  | .os n sz i len => match eszOf P t with
    | some re => re.sz = sz ∧ (match bndH 0 lo, bndH len hi with
      | some l, some m => 0 ≤ l ∧ (l ≤ m ∧ l < len) ∧ m ≤ len ∧ K (.os n sz (i + l.toNat) (m.toNat - l.toNat))
      | _, _ => False)
    | none => False
  | _ => False

/-- s[l:] of an own slice, to its end as well: a pointer to the end, or an empty slice without room. -/
def stepSliceD (P : Program) (t : TypeId) (x : HVal) (lo hi : Option HVal) (K : HVal → Prop) : Prop :=
  match x, hi with
  | .os n sz i len, none => (match eszOf P t with
    | some re => re.sz = sz ∧ (match bndH 0 lo with
      | some l => 0 ≤ l ∧ l ≤ len ∧ (l < len → K (.os n sz (i + l.toNat) (len - l.toNat))) ∧ (l = len → K (.os n sz (i + len) 0) ∧ K (.sl sz [] true))
      | none => False)
    | none => False)
  | x, hi => stepSlice P t x lo hi K

/-- s[l:m:M] -/
def stepSlice3 (P : Program) (t : TypeId) (x : HVal) (lo : Option HVal) (hi mx : HVal) (K : HVal → Prop) : Prop :=
  match x with
  | .sl sz es tg => match eszOf P t with
    | some re => re.sz = sz ∧ (match bndH 0 lo, bndH es.length (some hi), bndH 0 (some mx) with
      | some l, some m, some M => 0 ≤ l ∧ l ≤ m ∧ m ≤ M ∧ M ≤ es.length ∧ K (.sl sz ((es.take m.toNat).drop l.toNat) (decide (M = m)))
      | _, _, _ => False)
    | none => False
  | _ => False

def stepLen (P : Program) (t : Option TypeId) (x : HVal) (K : HVal → Prop) : Prop :=
  match t with
  | some t => match dOf P t, x with
    | some (.slice _), .sl _ es _ => es.length ≤ 9223372036854775807 → K (.int .i64 es.length)
    | some (.slice _), .os _ _ _ n => n ≤ 9223372036854775807 → K (.int .i64 n)
    | some (.slice _), .nilsl => K (.int .i64 0)
    | some .str, .str s => s.length ≤ 9223372036854775807 → K (.int .i64 s.length)
    | _, _ => False
  | none => False

def stepBuild (P : Program) (r : Option TyR) (ps : List (Nat × HVal)) (K : HVal → Prop) : Prop :=
  match r with
  | some r => placesOK P r.d = true ∧ r.zero ≠ [] ∧ fillCOK (places P r.d) r.zero.length ps = true ∧ K (.agg (fillC (places P r.d) r.zero ps))
  | none => False

def stepBS (re : Option TyR) (len : Nat) (ps : List (Nat × HVal)) (K : Nat → List (List HVal) → Prop) : Prop :=
  match re with
  | some re => re.zero.length = re.sz ∧ 0 < re.sz ∧ re.zero.all HVal.flat = true ∧ len * re.sz ≤ 16777216 ∧ fillOK len re.sz ps = true ∧ K re.sz (fillH (List.replicate len re.zero) ps)
  | none => False

def stepApp (P : Program) (re : Option TyR) (t1 : Option TypeId) (x y : HVal) (h : Heap) (K : HVal → Heap → Prop) : Prop :=
  match re with
  | some re => re.zero.length = re.sz ∧ 0 < re.sz ∧ srcTy P t1 = true ∧ (match x with
    | .os n sz i len => re.sz = sz ∧ (match h n with
      | some (.row sz' es) => sz' = sz ∧ i + len ≤ es.length ∧ (match srcOf h sz y with
        | some ys => (len + ys.length) * re.bytes ≤ 140737488355328 ∧ len + ys.length ≤ 9223372036854775807 ∧
            ∀ b, h b = none → K (.os b sz 0 (len + ys.length)) (upd (upd h n .gone) b (.row sz ((es.drop i).take len ++ ys.map (List.map .v))))
        | none => False)
      | _ => False)
    | x => match dstOf re.sz x, srcOf h re.sz y with
      | some olds, some ys => (ys = [] → K x h) ∧ (ys ≠ [] → (olds.length + ys.length) * re.bytes ≤ 140737488355328 ∧ olds.length + ys.length ≤ 9223372036854775807 ∧
          ∀ n, h n = none → K (.os n re.sz 0 (olds.length + ys.length)) (upd h n (.row re.sz ((olds ++ ys).map (List.map .v)))))
      | _, _ => False)
  | none => False

def eszO (P : Program) (t : Option TypeId) : Option TyR := match t with | some t => eszOf P t | none => none

def stepCall (P : Program) (c : Call) (ρ : Operand → HVal) (h : Heap) (K : HVal → Heap → Prop) : Prop :=
  match c with
  | { callee := .value f, args := as, argTypes := _ } => match ρ f with
    | .fn (.func g) first cap => HFn P g (first ++ as.toList.map ρ ++ cap) h K
    | _ => False
  | { callee := .builtin .len, args := as, argTypes := ats } => match as.toList with
    | [x] => stepLen P ats[0]? (ρ x) fun v => K v h
    | _ => False
  | { callee := .builtin .max, args := as, argTypes := _ } => match as.toList with
    | [x, y] => match ρ x, ρ y with
      | .int k a, .int _ b => (match ρ y with | .int k' _ => k' = k | _ => False) ∧ K (.int k (max a b)) h
      | _, _ => False
    | _ => False
  | { callee := .builtin .append, args := as, argTypes := ats } => match as.toList with
    | [x, y] => stepApp P (eszO P ats[0]?) ats[1]? (ρ x) (ρ y) h K
    | _ => False
  | c => stepX P (.call c) ρ h K

def stepConv (P : Program) (s d : TypeId) (x : HVal) (K : HVal → Prop) : Prop :=
  match dOf P d, x with
  | some (.int k'), .int k n => (dOf P s).isSome = true ∧ K (.int k' (k'.wrap n))
  | some .str, .sl 1 es _ => (match dOf P s with
    | some (.slice et) => dOf P et = some (.int .u8) ∧ (match bytesOf es with | some bs => K (.str bs) | none => False)
    | _ => False)
  | _, _ => False

/-- One operation of the text, as the proofs see it. -/
def step (P : Program) (o : Oper) (ρ : Operand → HVal) (h : Heap) (K : HVal → Heap → Prop) : Prop :=
  match o.op with
  | .move x => K (ρ x) h
  | .assign x => K (ρ x) h
  | .pick c a b => match ρ c with
    | .bool t => (t = true → K (ρ a) h) ∧ (t = false → K (ρ b) h)
    | _ => False
  | .binOp op t x y _ => stepBinC P op t (constOp y) (ρ x) (ρ y) fun v => K v h
  | .unOp op _ x => stepUn op (ρ x) fun v => K v h
  | .convert s d x => stepConv P s d (ρ x) fun v => K v h
  | .fieldAddr t x f => stepFA (dOf P t) f (ρ x) fun v => K v h
  | .indexAddr t x i => stepIA (eszOf P t) (ρ x) (ρ i) fun v => K v h
  | .index t x i => stepIx (dOf P t) (ρ x) (ρ i) fun v => K v h
  | .load t a => stepLd (tyR P t) (ρ a) h fun v => K v h
  | .store t a v => stepSt (tyR P t) (ρ a) (ρ v) h fun h' => K .any h'
  | .alloc t => stepAlloc (tyR P t) h K
  | .box t x => if rawB t then stepRaw t (ρ x) h K else stepBox (ρ x) h K
  | .makeSlice t l c => stepMake (eszOf P t) (ρ l) (ρ c) h K
  | .slice t x lo hi none => stepSliceD P t (ρ x) (lo.map ρ) (hi.map ρ) fun v => K v h
  | .extract t i => match ρ t with
    | .tup cs => match cs[i]? with | some x => K x h | none => False
    | _ => False
  | .nilCheck x => match ρ x with
    | .op n sz i k => K (.op n sz i k) h
    | .ip sz es i k => K (.ip sz es i k) h
    | _ => False
  | .makeFunc fn fs cs => K (.fn fn (fs.toList.map ρ) (cs.toList.map ρ)) h
  | .call c => stepCall P c ρ h K
  | .build t ps => stepBuild P (tyR P t) (ps.toList.map fun p => (p.1, ρ p.2)) fun v => K v h
  | .buildSlice t len ps => stepBS (eszOf P t) len (ps.toList.map fun p => (p.1, ρ p.2)) fun sz es => ∀ n, h n = none → K (.os n sz 0 len) (upd h n (.row sz (es.map (List.map .v))))
  | .slice t x lo (some hi) (some mx) => stepSlice3 P t (ρ x) (lo.map ρ) (ρ hi) (ρ mx) fun v => K v h
  | op => stepX P op ρ h K

section
variable {P : Program} {o : Oper} {ρ : Operand → HVal} {h : Heap} {K : HVal → Heap → Prop}

theorem stepBin_sound (op : BinOp) (t ty : TypeId) (x y : Operand) (ho : o.op = .binOp op t x y ty) (hs : stepBin P op t (ρ x) (ρ y) fun v => K v h) : OpW P o ρ h K := by
  have gen : ∀ v, binH op (ρ x) (ρ y) = some v → K v h → OpW P o ρ h K := fun v hv hk => opw_bin op t ty x y v ho hv hk
  unfold stepBin at hs
  split at hs
  · rename_i a b ex ey
    obtain ⟨hd, hs⟩ := hs
    obtain ⟨r, hr, hd⟩ := dOf_some hd
    split at hs
    · exact opw_bin_bool .eql t ty x y r a b _ ho hr hd ex ey (.inl ⟨rfl, rfl⟩) hs
    · exact opw_bin_bool .neq t ty x y r a b _ ho hr hd ex ey (.inr ⟨rfl, rfl⟩) hs
    · exact hs.elim
  · rename_i k a k' b ex ey
    split at hs
    · obtain ⟨rfl, hb, hk⟩ := hs
      exact opw_div .quo t ty x y k a b _ ho ex ey hb (.inl ⟨rfl, rfl⟩) hk
    · obtain ⟨rfl, hb, hk⟩ := hs
      exact opw_div .rem t ty x y k a b _ ho ex ey hb (.inr ⟨rfl, rfl⟩) hk
    · obtain ⟨hb, hk⟩ := hs
      exact opw_shift .shl t ty x y k k' a b _ ho ex ey hb (.inl ⟨rfl, rfl⟩) hk
    · obtain ⟨hb, hk⟩ := hs
      exact opw_shift .shr t ty x y k k' a b _ ho ex ey hb (.inr ⟨rfl, rfl⟩) hk
    · split at hs
      · rename_i v hv; exact gen v (by rw [ex, ey]; exact hv) hs
      · exact hs.elim
  · rename_i a b ex ey
    split at hs
    · exact opw_str_add t ty x y a b ho ex ey hs.1 hs.2
    · exact gen _ (by rw [ex, ey]; rfl) hs
    · exact gen _ (by rw [ex, ey]; rfl) hs
    · split at hs
      · rename_i c hc; exact opw_str_cmp _ t ty x y a b c ho ex ey hc hs
      · exact hs.elim
  · rename_i xs ys ex ey
    obtain ⟨ht, hs⟩ := hs
    split at hs
    · rename_i b hb; exact opw_bin_agg .eql t ty x y xs ys b _ ho ht hb ex ey (.inl ⟨rfl, rfl⟩) hs
    · rename_i b hb; exact opw_bin_agg .neq t ty x y xs ys b _ ho ht hb ex ey (.inr ⟨rfl, rfl⟩) hs
    · exact hs.elim
  · split at hs
    · rename_i v hv; exact gen v hv hs
    · exact hs.elim

theorem stepBinN_sound (op : BinOp) (t ty : TypeId) (x y : Operand) (ho : o.op = .binOp op t x y ty) (hs : stepBinN P op t (ρ x) (ρ y) fun v => K v h) : OpW P o ρ h K := by
  unfold stepBinN at hs
  split at hs
  · rename_i sz es tt ex ey
    obtain ⟨hd0, hs⟩ := hs
    split at hd0
    · rename_i et hd
      obtain ⟨r, hr, hd⟩ := dOf_some hd
      split at hs
      · exact opw_bin_nil .eql t ty x y r et sz es tt ho hr hd ex ey (.inl rfl) hs.1 hs.2
      · exact opw_bin_nil .neq t ty x y r et sz es tt ho hr hd ex ey (.inr rfl) hs.1 hs.2
      · exact hs.elim
    · exact hd0.elim
  · rename_i m sz i len ex ey
    obtain ⟨hd0, hs⟩ := hs
    split at hd0
    · rename_i et hd
      obtain ⟨r, hr, hd⟩ := dOf_some hd
      split at hs
      · exact opw_bin_nilO .eql t ty x y r et m sz i len ho hr hd ex ey (.inl rfl) hs.1 hs.2
      · exact opw_bin_nilO .neq t ty x y r et m sz i len ho hr hd ex ey (.inr rfl) hs.1 hs.2
      · exact hs.elim
    · exact hd0.elim
  · rename_i ex ey
    obtain ⟨hd0, hs⟩ := hs
    split at hd0
    · rename_i et hd
      obtain ⟨r, hr, hd⟩ := dOf_some hd
      split at hs
      · exact opw_bin_nilN .eql t ty x y r et ho hr hd ex ey (.inl rfl) hs
      · exact opw_bin_nilN .neq t ty x y r et ho hr hd ex ey (.inr rfl) hs
      · exact hs.elim
    · exact hd0.elim
  · exact stepBin_sound op t ty x y ho hs

theorem stepBinC_sound (op : BinOp) (t ty : TypeId) (x y : Operand) (ho : o.op = .binOp op t x y ty) (hs : stepBinC P op t (constOp y) (ρ x) (ρ y) fun v => K v h) : OpW P o ρ h K := by
  unfold stepBinC at hs
  split at hs
  · rename_i ec ex ey
    obtain ⟨hi, hs⟩ := hs
    split at hs
    · exact opw_bin_ifc .eql t ty x y true ho hi ec (.inl ⟨ex, rfl⟩) ey (.inl rfl) hs
    · exact opw_bin_ifc .neq t ty x y true ho hi ec (.inl ⟨ex, rfl⟩) ey (.inr rfl) hs
    · exact hs.elim
  · rename_i ti xi ec ex ey
    obtain ⟨hi, hs⟩ := hs
    split at hs
    · exact opw_bin_ifc .eql t ty x y false ho hi ec (.inr ⟨⟨_, _, ex⟩, rfl⟩) ey (.inl rfl) hs
    · exact opw_bin_ifc .neq t ty x y false ho hi ec (.inr ⟨⟨_, _, ex⟩, rfl⟩) ey (.inr rfl) hs
    · exact hs.elim
  · exact stepBinN_sound op t ty x y ho hs

theorem stepApp_sound (x y : Operand) (ats : Array TypeId) (ho : o.op = .call { callee := .builtin .append, args := #[x, y], argTypes := ats }) (hs : stepApp P (eszO P ats[0]?) ats[1]? (ρ x) (ρ y) h K) : OpW P o ρ h K := by
  unfold stepApp at hs
  split at hs
  · rename_i re hre
    unfold eszO at hre
    split at hre
    · rename_i t a0
      obtain ⟨r, et, hr, hd, he⟩ := eszOf_some hre
      obtain ⟨hz, hz0, h1, hs⟩ := hs
      split at hs
      · rename_i n sz i len hx
        obtain ⟨hsz, hs⟩ := hs
        split at hs
        · rename_i sz' es hn
          obtain ⟨rfl, hle, hs⟩ := hs
          split at hs
          · rename_i ys hy
            exact opw_append_os x y ats t et r re n sz' i len es ys ho a0 hr hd he hz hz0 h1 hx hsz hn hle hy hs.1 hs.2.1 hs.2.2
          · exact hs.elim
        · exact hs.elim
      · split at hs
        · rename_i olds ys hx hy
          rcases List.eq_nil_or_concat ys with e | ⟨_, _, e⟩
          · subst e
            exact opw_append_none x y ats t et r re ho a0 hr hd he h1 (by rw [hx]; rfl) hy (hs.1 rfl)
          · have hne : ys ≠ [] := by rw [e]; simp
            have hs := hs.2 hne
            exact opw_append_new x y ats t et r re olds ys ho a0 hr hd he hz hz0 h1 hx hy hne hs.1 hs.2.1 hs.2.2
        · exact hs.elim
    · simp at hre
  · exact hs.elim

theorem step_sound (hs : step P o ρ h K) : OpW P o ρ h K := by
  unfold step at hs
  split at hs
  case h_1 x ho => exact opw_move x ho hs
  case h_2 x ho => exact opw_assign x ho hs
  case h_3 c a b ho =>
    split at hs
    · rename_i t ht
      refine opw_pick c a b t ho ht ?_
      cases t
      · exact hs.2 rfl
      · exact hs.1 rfl
    · exact hs.elim
  case h_4 op t x y ty ho => exact stepBinC_sound op t ty x y ho hs
  case h_5 op t x ho =>
    unfold stepUn at hs
    split at hs
    · rename_i b hb; exact opw_not t x b ho hb hs
    · rename_i k n hn; exact opw_neg t x k n ho hn hs
    · exact hs.elim
  case h_6 s d x ho =>
    unfold stepConv at hs
    split at hs
    · rename_i k' k n hd hx
      obtain ⟨hs1, hk⟩ := hs
      obtain ⟨rd, hrd, hdd⟩ := dOf_some hd
      obtain ⟨ds, hds⟩ := Option.isSome_iff_exists.1 hs1
      obtain ⟨rs, hrs, _⟩ := dOf_some hds
      exact opw_convert_int s d x rs rd k k' n ho hrs hrd hdd hx hk
    · rename_i es tg hd hx
      split at hs
      · rename_i et hss
        obtain ⟨hee, hs⟩ := hs
        split at hs
        · rename_i bs hbs
          obtain ⟨rd, hrd, hdd⟩ := dOf_some hd
          obtain ⟨rs, hrs, hsd⟩ := dOf_some hss
          obtain ⟨re, hre, hed⟩ := dOf_some hee
          exact opw_conv_bytes s d et x rs rd re es tg bs ho hrs hsd hre hed hrd hdd hx hbs hs
        · exact hs.elim
      · exact hs.elim
    · exact hs.elim
  case h_7 t x f ho =>
    unfold stepFA at hs
    split at hs
    · rename_i fs hd
      obtain ⟨r, hr, hd⟩ := dOf_some hd
      split at hs
      · rename_i off ft sz' hf
        obtain ⟨hsz, hs⟩ := hs
        split at hs
        · rename_i n sz i k hx; exact opw_fieldAddr t x f r fs off sz' ft _ ho hr hd hf hsz (.inl ⟨n, sz, i, k, hx, rfl⟩) hs
        · rename_i sz es i k hx; exact opw_fieldAddr t x f r fs off sz' ft _ ho hr hd hf hsz (.inr ⟨sz, es, i, k, hx, rfl⟩) hs
        · exact hs.elim
      · exact hs.elim
    · exact hs.elim
  case h_8 t x i ho =>
    unfold stepIA at hs
    split at hs
    · rename_i re hre
      obtain ⟨r, et, hr, hd, he⟩ := eszOf_some hre
      split at hs
      · rename_i sz es tg k n hx hi
        obtain ⟨hsz, h0, hn, hk⟩ := hs
        exact opw_indexAddr_sl t et x i r re sz es tg k n ho hr hd he hsz hx hi h0 hn hk
      · rename_i m sz i0 len k n hx hi
        obtain ⟨hsz, h0, hn, hk⟩ := hs
        exact opw_indexAddr_os t et x i r re m sz i0 len k n ho hr hd he hsz hx hi h0 hn hk
      · exact hs.elim
    · exact hs.elim
  case h_9 t x i ho =>
    unfold stepIx at hs
    split at hs
    · rename_i s k n hd hx hi
      obtain ⟨r, hr, hd⟩ := dOf_some hd
      obtain ⟨h0, hs⟩ := hs
      split at hs
      · rename_i c hc; exact opw_index_str t x i r s k n c ho hr hd hx hi h0 hc hs
      · exact hs.elim
    · exact hs.elim
  case h_10 t a ho =>
    unfold stepLd at hs
    split at hs
    · rename_i r hr
      split at hs
      · rename_i sz es i off ha
        split at hs
        · rename_i e he
          split at hs
          · rename_i x hx; exact opw_load_ip t a r sz i off es e x ho hr ha he hx hs
          · exact hs.elim
        · exact hs.elim
      · rename_i n sz i off ha
        split at hs
        · rename_i sz' es hn
          obtain ⟨rfl, hs⟩ := hs
          split at hs
          · rename_i e he
            split at hs
            · rename_i x hx; exact opw_load_op t a r n sz' i off es e x ho hr ha hn he hx hs
            · exact hs.elim
          · exact hs.elim
        · exact hs.elim
      · exact hs.elim
    · exact hs.elim
  case h_11 t a v ho =>
    unfold stepSt at hs
    split at hs
    · rename_i r hr
      split at hs
      · rename_i n sz i off ha
        split at hs
        · rename_i sz' es hn
          obtain ⟨rfl, hs⟩ := hs
          split at hs
          · rename_i e he
            obtain ⟨hf, hsz, hoff, hk⟩ := hs
            exact opw_store t a v r n sz' i off es e ho hr ha hn he hf hsz hoff hk
          · exact hs.elim
        · exact hs.elim
      · exact hs.elim
    · exact hs.elim
  case h_12 t ho =>
    unfold stepAlloc at hs
    split at hs
    · rename_i r hr
      obtain ⟨hz, hf, hk⟩ := hs
      exact opw_alloc t r ho hr hz hf hk
    · exact hs.elim
  case h_13 t x ho =>
    split at hs
    · exact opw_box_raw t x ho hs.1 hs.2
    · exact opw_box t x ho hs.1 hs.2
  case h_14 t l c ho =>
    unfold stepMake at hs
    split at hs
    · rename_i re hre
      obtain ⟨r, et, hr, hd, he⟩ := eszOf_some hre
      split at hs
      · rename_i k a k' b hl hc
        obtain ⟨hz, hz0, hf, h0, hab, hb, hbb, hk⟩ := hs
        exact opw_makeSlice t et l c r re k k' a b ho hr hd he hz hz0 hf hl hc h0 hab hb hbb hk
      · exact hs.elim
    · exact hs.elim
  case h_15 t x lo hi ho =>
    unfold stepSliceD at hs
    split at hs
    · rename_i n sz i len hx hhi
      split at hs
      · rename_i re hre
        obtain ⟨r, et, hr, hd, he⟩ := eszOf_some hre
        obtain ⟨hsz, hs⟩ := hs
        split at hs
        · rename_i l hl
          obtain ⟨h0, h1, h2, h3⟩ := hs
          rcases Int.lt_or_eq_of_le h1 with q | q
          · have := h2 q
            exact opw_slice_os t et x lo hi r re n sz i len l len ho hr hd he hsz hx hl (by rw [hhi]; rfl) h0 ⟨h1, q⟩ (Int.le_refl _) (by simpa using this)
          · exact opw_slice_os0 t et x lo hi r re n sz i len l len ho hr hd he hsz hx hl (by rw [hhi]; rfl) h0 q rfl (h3 q).1 (h3 q).2
        · exact hs.elim
      · exact hs.elim
    unfold stepSlice at hs
    split at hs
    · rename_i s hx
      obtain ⟨hd, hs⟩ := hs
      obtain ⟨r, hr, hd⟩ := dOf_some hd
      split at hs
      · rename_i l m hl hh
        obtain ⟨h0, h1, h2, hk⟩ := hs
        exact opw_slice_str t x lo hi r s l m ho hr hd hx hl hh h0 h1 h2 hk
      · exact hs.elim
    · rename_i sz es tg hx
      split at hs
      · rename_i re hre
        obtain ⟨r, et, hr, hd, he⟩ := eszOf_some hre
        obtain ⟨hsz, hs⟩ := hs
        split at hs
        · rename_i l m hl hh
          obtain ⟨h0, h1, h2, hk⟩ := hs
          exact opw_slice_sl t et x lo hi r re sz es tg l m ho hr hd he hsz hx hl hh h0 h1 h2 hk
        · exact hs.elim
      · exact hs.elim
    · rename_i n sz i len hx
      split at hs
      · rename_i re hre
        obtain ⟨r, et, hr, hd, he⟩ := eszOf_some hre
        obtain ⟨hsz, hs⟩ := hs
        split at hs
        · rename_i l m hl hh
          obtain ⟨h0, h1, h2, hk⟩ := hs
          exact opw_slice_os t et x lo hi r re n sz i len l m ho hr hd he hsz hx hl hh h0 h1 h2 hk
        · exact hs.elim
      · exact hs.elim
    · exact hs.elim
  case h_16 t i ho =>
    split at hs
    · rename_i cs ht
      split at hs
      · rename_i x hx; exact opw_extract t i cs x ho ht hx hs
      · exact hs.elim
    · exact hs.elim
  case h_17 x ho =>
    split at hs
    · rename_i n sz i k hx; exact opw_nilCheck x ho (.inl ⟨n, sz, i, k, hx⟩) (hx ▸ hs)
    · rename_i sz es i k hx; exact opw_nilCheck x ho (.inr ⟨sz, es, i, k, hx⟩) (hx ▸ hs)
    · exact hs.elim
  case h_18 fn fs cs ho => exact opw_makeFunc fn fs cs ho hs
  case h_19 c ho =>
    unfold stepCall at hs
    split at hs
    · rename_i f as ats
      split at hs
      · rename_i g first cap hf; exact opw_call f as ats g first cap ho hf hs
      · exact hs.elim
    · rename_i as ats
      split at hs
      · rename_i x hax
        have hax' : as = #[x] := by cases as; simp_all
        subst hax'
        unfold stepLen at hs
        split at hs
        · rename_i t hat
          split at hs
          · rename_i et sz es tg hd hx
            obtain ⟨r, hr, hd⟩ := dOf_some hd
            exact opw_len t x r es.length ats ho hat hr (.inl ⟨_, sz, es, tg, hd, hx, rfl⟩) hs
          · rename_i et m sz i n hd hx
            obtain ⟨r, hr, hd⟩ := dOf_some hd
            exact opw_len t x r n ats ho hat hr (.inr (.inl ⟨_, m, sz, i, hd, hx⟩)) hs
          · rename_i et hd hx
            obtain ⟨r, hr, hd⟩ := dOf_some hd
            exact opw_len t x r 0 ats ho hat hr (.inr (.inr (.inl ⟨_, hd, hx, rfl⟩))) fun _ => hs
          · rename_i s hd hx
            obtain ⟨r, hr, hd⟩ := dOf_some hd
            exact opw_len t x r s.length ats ho hat hr (.inr (.inr (.inr ⟨s, hd, hx, rfl⟩))) hs
          · exact hs.elim
        · exact hs.elim
      · exact hs.elim
    · rename_i as ats
      split at hs
      · rename_i x y hax
        have hax' : as = #[x, y] := by cases as; simp_all
        subst hax'
        split at hs
        · rename_i k a k' b hx hy
          obtain ⟨h1, hk⟩ := hs
          rw [hy] at h1
          simp only at h1
          subst h1
          exact opw_max x y ats _ a b ho hx hy hk
        · exact hs.elim
      · exact hs.elim
    · rename_i as ats
      split at hs
      · rename_i x y hax
        have hax' : as = #[x, y] := by cases as; simp_all
        subst hax'
        exact stepApp_sound x y ats ho hs
      · exact hs.elim
    · exact stepX_sound ho hs
  case h_20 t ps ho =>
    unfold stepBuild at hs
    split at hs
    · rename_i r hr
      obtain ⟨h1, h2, h3, hk⟩ := hs
      exact opw_build t ps r ho hr h1 h2 h3 hk
    · exact hs.elim
  case h_21 t len ps ho =>
    unfold stepBS at hs
    split at hs
    · rename_i re hre
      obtain ⟨r, et, hr, hd, he⟩ := eszOf_some hre
      obtain ⟨h1, h2, h3, h4, h5, hk⟩ := hs
      exact opw_buildSlice t et len ps r re ho hr hd he h1 h2 h3 h4 h5 hk
    · exact hs.elim
  case h_22 t x lo hi mx ho =>
    unfold stepSlice3 at hs
    split at hs
    · rename_i sz es tg hx
      split at hs
      · rename_i re hre
        obtain ⟨r, et, hr, hd, he⟩ := eszOf_some hre
        obtain ⟨hsz, hs⟩ := hs
        split at hs
        · rename_i l m M hl hh hM
          obtain ⟨h0, h1, h2, h3, hk⟩ := hs
          exact opw_slice3_sl t et x lo (some hi) mx r re sz es tg l m M ho hr hd he hsz hx rfl hl hh hM h0 h1 h2 h3 hk
        · exact hs.elim
      · exact hs.elim
    · exact hs.elim
  case h_23 => exact stepX_sound rfl hs

/-- What can never be written to again. -/
def stepBoxI (x : HVal) (K : HVal → Prop) : Prop := x.cells.all HVal.flat = true ∧ K (.ip x.cells.length [x.cells] 0 0)

/-- A value and the named rows may be told anew, and say less. -/
def ShiftI (r' : HVal) (h' : Heap) (r : HVal) (h : Heap) : Prop :=
  ∀ E w v, Rel E h' w → Rep E h' w r' v → ∃ E', Ev E h' w E' h w ∧ Rel E' h w ∧ Rep E' h w r v
def sealK (K : HVal → Heap → Prop) : HVal → Heap → Prop := fun v h' => ∃ r g, ShiftI v h' r g ∧ K r g
theorem OpW.seal {P : Program} {o : Oper} {ρ : Operand → HVal} {h : Heap} {K : HVal → Heap → Prop} (a : OpW P o ρ h (sealK K)) : OpW P o ρ h K := fun E w ρc R hρ =>
  (a E w ρc R hρ).mono fun v w' ⟨r', h', E', ⟨r, g, s, k⟩, ev, R', x⟩ =>
    let ⟨E'', ev', R'', x'⟩ := s E' w' v R' x
    ⟨r, g, E'', k, ev.trans ev', R'', x'⟩
/-- An operation of the text; of the slots in 'ib' the rows are never written to. -/
def stepI (P : Program) (ib : List Nat) (o : Oper) (ρ : Operand → HVal) (h : Heap) (K : HVal → Heap → Prop) : Prop :=
  match o.dst with
  | some d => if ib.contains d then (match o.op with
      | .box _ x => stepBoxI (ρ x) fun v => K v h
      | .buildSlice t len ps => stepBS (eszOf P t) len (ps.toList.map fun p => (p.1, ρ p.2)) fun sz es => K (.sl sz es true) h
      | .call ⟨.builtin .append, _, _⟩ => step P o ρ h (sealK K)
      | _ => step P o ρ h K) else step P o ρ h K
  | none => step P o ρ h K

theorem stepI_sound {ib : List Nat} (hs : stepI P ib o ρ h K) : OpW P o ρ h K := by
  unfold stepI at hs
  split at hs
  · split at hs
    · split at hs
      · rename_i t x ho; exact opw_box_imm t x ho hs.1 hs.2
      · rename_i t len ps ho
        unfold stepBS at hs
        split at hs
        · rename_i re hre
          obtain ⟨r, et, hr, hd, he⟩ := eszOf_some hre
          obtain ⟨h1, h2, h3, h4, h5, hk⟩ := hs
          exact opw_buildSlice_imm t et len ps r re ho hr hd he h1 h2 h3 h4 h5 hk
        · exact hs.elim
      · exact (step_sound hs).seal
      · exact step_sound hs
    · exact step_sound hs
  · exact step_sound hs
end
variable {ds : List Deferred}

/-- Is an operation wanted? -/
def want (ops : Array Oper) (τ : Tmps) (o : Oper) : Option Bool :=
  match o.guard with
  | none => some true
  | some (g, b) => match (ops[g]?).bind (·.dst) with
    | some d => match tget τ d with
      | .bool b' => some (b' == b)
      | .tup [] => some false
      | _ => none
    | none => none

theorem want_sound {E : Env} {h : Heap} {w : World} {N : Nat} {τ : Tmps} {a : Act} {ops : Array Oper} {o : Oper} {c : Bool} (r : RepT ds E h w N τ a) (hw : want ops τ o = some c) (hd : ∀ (g : Nat) (og : Oper) d, ops[g]? = some og → og.dst = some d → d < N) :
    Region.wanted o (yielded ops a.tmps) = c := by
  unfold want at hw
  unfold Region.wanted
  split at hw
  · rename_i hg; rw [hg]; exact Option.some.inj hw
  · rename_i g b hg
    rw [hg]
    split at hw
    · rename_i d hdd
      obtain ⟨og, hog, hod⟩ := Option.bind_eq_some_iff.1 hdd
      have hlt : d < a.tmps.size := by rw [r.size]; exact hd g og d hog hod
      have hr := r.get d
      have hge : a.tmps[d]? = some a.tmps[d] := Array.getElem?_eq_getElem hlt
      have hgd : a.tmps.getD d undef = a.tmps[d] := by simp [Array.getD, hlt]
      split at hw
      · rename_i b' hb'
        rw [hb', hgd] at hr
        have := rep_bool hr
        obtain rfl := Option.some.inj hw
        simp only [yielded, hog, Option.bind_some, hod, hge, this]
        cases b <;> cases b' <;> rfl
      · rename_i hb'
        rw [hb', hgd] at hr
        obtain rfl := Option.some.inj hw
        have : a.tmps[d] = .tuple #[] := by
          cases hv : a.tmps[d] <;> rw [hv] at hr <;> try (cases hr; done)
          cases hr with
          | tup _ vs hl hrr =>
            have : vs = [] := by cases vs <;> simp_all
            simp [this]
        simp only [yielded, hog, Option.bind_some, hod, hge, this]
        cases b <;> rfl
      · simp at hw
    · simp at hw

def RegW (P : Program) (ib : List Nat) (ops : Array Oper) : List Oper → Tmps → Heap → (Tmps → Heap → Prop) → Prop
  | [], τ, h, K => K τ h
  | o :: rest, τ, h, K => match o.guard with
    | none => stepI P ib o (hev τ) h fun v h' => RegW P ib ops rest (tput τ o.dst v) h' K
    | some (g, b) => match (ops[g]?).bind (·.dst) with
      | some d => match tget τ d with
        | .bool b' => (b' = b → stepI P ib o (hev ((d, .bool b) :: τ)) h fun v h' => RegW P ib ops rest (tput ((d, .bool b) :: τ) o.dst v) h' K) ∧
            (b' = !b → RegW P ib ops rest (tput ((d, .bool !b) :: τ) o.dst (.tup [])) h K)
        | .tup [] => RegW P ib ops rest (tput τ o.dst (.tup [])) h K
        | _ => False
      | none => False

theorem tget_again {τ : Tmps} {d : Nat} {v : HVal} (hv : tget τ d = v) (k : Nat) : tget ((d, v) :: τ) k = tget τ k := by
  simp only [tget]; split
  · rename_i e; rw [← e, hv]
  · rfl

/-- The three ways of one operation of a region. -/
theorem RegW.cases {P : Program} {ib : List Nat} {ops : Array Oper} {o : Oper} {rest : List Oper} {τ : Tmps} {h : Heap} {K : Tmps → Heap → Prop} (r : RegW P ib ops (o :: rest) τ h K) :
    ∃ σ, (∀ k, tget σ k = tget τ k) ∧ ((want ops τ o = some true ∧ stepI P ib o (hev σ) h fun v h' => RegW P ib ops rest (tput σ o.dst v) h' K) ∨
      (want ops τ o = some false ∧ RegW P ib ops rest (tput σ o.dst (.tup [])) h K)) := by
  unfold RegW at r
  unfold want
  split at r
  · rename_i hg; exact ⟨τ, fun _ => rfl, .inl ⟨by simp [hg], r⟩⟩
  · rename_i g b hg
    try simp only [hg]
    split at r
    · rename_i d hd
      try simp only [hd]
      split at r
      · rename_i b' hb'
        by_cases e : b' = b
        · subst e
          exact ⟨(d, .bool b') :: τ, tget_again hb', .inl ⟨by simp [hb'], r.1 rfl⟩⟩
        · have e' : b' = !b := by cases b' <;> cases b <;> simp_all
          subst e'
          exact ⟨(d, .bool !b) :: τ, tget_again hb', .inr ⟨by first | (cases b <;> rfl) | (simp only [hb']; cases b <;> rfl), r.2 rfl⟩⟩
      · rename_i hb'; exact ⟨τ, fun _ => rfl, .inr ⟨by simp [hb'], r⟩⟩
      · exact r.elim
    · exact r.elim

def dstOps (N : Nat) (ops : Array Oper) : Bool := ops.toList.all fun o => match o.dst with | some d => decide (d < N) | none => true

theorem dstOps_get {N : Nat} {ops : Array Oper} (h : dstOps N ops = true) (g : Nat) (og : Oper) (d : Nat) (hg : ops[g]? = some og) (hd : og.dst = some d) : d < N := by
  have := List.all_eq_true.1 h og (by rw [← Array.getElem?_toList] at hg; exact List.mem_of_getElem? hg)
  simpa [hd] using this

theorem regW_wp {P : Program} {ib : List Nat} {N : Nat} {ops : Array Oper} {Q : Exit → Tmps → Heap → Prop} {K : Tmps → Heap → Prop} (hN : dstOps N ops = true) (keep : List Nat) (hK : ∀ τ h, K τ h → Q .normal (prune keep τ) h) {E₀ : Env} {h₀ : Heap} {w₀ : World} :
    ∀ (l : List Oper), (∀ o ∈ l, o ∈ ops.toList) → ∀ (τ : Tmps) (h : Heap), RegW P ib ops l τ h K → ∀ E w a, Ev E₀ h₀ w₀ E h w → Rel E h w → RepT ds E h w N τ a → wpList P ops (AfterC ds N Q E₀ h₀ w₀) l a w
  | [], _, τ, h, hr, E, w, a, ev, R, r => ⟨prune keep τ, h, E, hK _ _ hr, ev, R, r.prune keep⟩
  | o :: rest, hl, τ, h, hr, E, w, a, ev, R, r => by
    have hdst : ∀ k, o.dst = some k → k < N := fun k hk => by
      have := List.all_eq_true.1 hN o (hl o (by simp))
      simpa [hk] using this
    obtain ⟨σ, hσ, hr⟩ := hr.cases
    have rσ : RepT ds E h w N σ a := ⟨r.size, r.defers, fun k => by rw [hσ]; exact r.get k⟩
    rcases hr with ⟨hw, hr⟩ | ⟨hw, hr⟩
    · have hwant := want_sound r hw (dstOps_get hN)
      unfold wpList
      rw [hwant, if_pos rfl]
      left
      refine Runs.wp ((stepI_sound hr E w _ R fun x => rσ.hev x).mono ?_)
      rintro v w' ⟨x, h', E', k, ev', R', rx⟩
      exact regW_wp hN keep hK rest (fun o ho => hl o (by simp [ho])) _ h' k E' w' (a.put o.dst v) (ev.trans ev') R' ((rσ.ev ev').put o.dst hdst rx)
    · have hwant := want_sound r hw (dstOps_get hN)
      unfold wpList
      rw [hwant, if_neg (by simp)]
      refine regW_wp hN keep hK rest (fun o ho => hl o (by simp [ho])) _ h hr E w _ ev R (rσ.put o.dst hdst ?_)
      exact Rep.tup [] [] rfl (by simp)

theorem HWp.region {P : Program} {ib : List Nat} {N id : Nat} {ops : Array Oper} {Q : Exit → Tmps → Heap → Prop} {τ : Tmps} {h : Heap} (hN : dstOps N ops = true) (keep : List Nat) (hr : RegW P ib ops ops.toList τ h fun τ' h' => Q .normal (Hl.prune keep τ') h') : HWp P N (.region id ops false) Q τ h :=
  fun ds E w a R r => wp_region_list (regW_wp hN keep (fun _ _ x => x) ops.toList (fun _ ho => ho) τ h hr E w a (.refl _ _ _) R r)

/-- What a function hands back. -/
def resOne (P : Program) (τ : Tmps) (h : Heap) : ResultVar → (HVal → Prop) → Prop
  | .tmp t, K => K (tget τ t)
  | .cell a t, K => stepLd (tyR P t) (tget τ a) h K
def resL (P : Program) (τ : Tmps) (h : Heap) : List ResultVar → (List HVal → Prop) → Prop
  | [], K => K []
  | x :: l, K => resOne P τ h x fun v => resL P τ h l fun vs => K (v :: vs)
def resV (P : Program) (rs : Array ResultVar) (τ : Tmps) (h : Heap) (K : HVal → Heap → Prop) : Prop :=
  resL P τ h rs.toList fun vs => match vs with
    | [v] => K v h
    | vs => K (.tup vs) h

def postQ (P : Program) (rs : Array ResultVar) (K : HVal → Heap → Prop) : Exit → Tmps → Heap → Prop
  | .normal, τ, h => resV P rs τ h K
  | .ret, τ, h => resV P rs τ h K
  | _, _, _ => False

theorem stepLd_run {P : Program} {t : TypeId} {a : HVal} {h : Heap} {K : HVal → Prop} (hs : stepLd (tyR P t) a h K) {E : Env} {w : World} {v : Value} (R : Rel E h w) (hv : Rep E h w a v) :
    ∃ (b o : Nat) (x : HVal) (c : Value), v = .pointer (some ⟨b, o, none⟩) ∧ (loadVar t ⟨b, o, none⟩).run P w = .ok c w ∧ K x ∧ Rep E h w x c := by
  unfold stepLd at hs
  split at hs
  · rename_i r hr
    split at hs
    · rename_i sz es i off
      split at hs
      · rename_i e he
        split at hs
        · rename_i x hx
          obtain ⟨b, k, c, h1, h2, h3⟩ := load_ip_run (P := P) t r sz i off es e x hr hv he hx
          exact ⟨b, k, x, c, h1, h2, hs, h3⟩
        · exact hs.elim
      · exact hs.elim
    · rename_i n sz i off
      split at hs
      · rename_i sz' es hn
        obtain ⟨rfl, hs⟩ := hs
        split at hs
        · rename_i e he
          split at hs
          · rename_i x hx
            obtain ⟨b, k, c, h1, h2, h3⟩ := load_op_run (P := P) R t r n sz' i off es e x hr hv hn he hx
            exact ⟨b, k, x, c, h1, h2, hs, h3⟩
          · exact hs.elim
        · exact hs.elim
      · exact hs.elim
    · exact hs.elim
  · exact hs.elim

def oneRes (P : Program) (tmps : Array Value) : ResultVar → Sem Value
  | .tmp t => pure (tmps.getD t undef)
  | .cell a t => do loadVar t (← asAddr (tmps.getD a undef))

theorem resL_run {P : Program} {N : Nat} {τ : Tmps} {h : Heap} {E : Env} {w : World} {a : Act} (R : Rel E h w) (r : RepT ds E h w N τ a) : ∀ (l : List ResultVar) (K : List HVal → Prop), resL P τ h l K →
    ∃ xs vs, (l.mapM (oneRes P a.tmps)).run P w = .ok vs w ∧ K xs ∧ RepL E h w xs vs
  | [], K, hk => ⟨[], [], by simp, hk, trivial⟩
  | x :: l, K, hk => by
    unfold resL at hk
    cases x with
    | tmp t =>
      simp only [resOne] at hk
      obtain ⟨xs, vs, h1, h2, h3⟩ := resL_run R r l _ hk
      exact ⟨_ :: xs, _ :: vs, by simp [oneRes, h1], h2, r.get t, h3⟩
    | cell p t =>
      simp only [resOne] at hk
      obtain ⟨b, o, x, c, h1, h2, h3, h4⟩ := stepLd_run hk R (r.get p)
      obtain ⟨xs, vs, k1, k2, k3⟩ := resL_run R r l _ h3
      exact ⟨x :: xs, c :: vs, by simp [oneRes, h1, asAddr, h2, k1], k2, h4, k3⟩

theorem resV_run {P : Program} {N : Nat} {τ : Tmps} {h : Heap} {E : Env} {w : World} {a : Act} {fn : Func} {K : HVal → Heap → Prop} (R : Rel E h w) (r : RepT ds E h w N τ a) (hk : resV P fn.results τ h K) :
    ∃ x v, (results fn a.tmps).run P w = .ok v w ∧ K x h ∧ Rep E h w x v := by
  unfold resV at hk
  obtain ⟨xs, vs, h1, h2, h3⟩ := resL_run R r _ _ hk
  have hm : (fn.results.mapM (oneRes P a.tmps)).run P w = .ok vs.toArray w := by
    rw [← Array.toArray_toList (xs := fn.results), List.mapM_toArray]
    simp [h1]
  have hres : (results fn a.tmps).run P w = .ok (if h : vs.toArray.size = 1 then vs.toArray[0] else .tuple vs.toArray) w := by
    have e : results fn a.tmps = (do let vs ← fn.results.mapM (oneRes P a.tmps); pure (if h : vs.size = 1 then vs[0] else .tuple vs)) := by
      unfold results
      congr 1
    rw [e, Sem.run_bind, hm]
    rfl
  split at h2
  · rename_i x
    cases vs with
    | nil => exact h3.elim
    | cons v vs =>
      cases vs with
      | nil => exact ⟨x, v, by rw [hres]; simp, h2, h3.1⟩
      | cons _ _ => exact h3.2.elim
  · rename_i hne
    refine ⟨.tup xs, .tuple vs.toArray, ?_, h2, .tup xs vs h3.length h3.get⟩
    rw [hres, dif_neg]
    intro e
    have hl := h3.length
    simp at e
    rw [e] at hl
    cases xs with
    | nil => simp at hl
    | cons y ys =>
      cases ys with
      | nil => exact hne y rfl
      | cons _ _ => simp at hl

/-- The frame at a function's beginning. -/
def argsT : Nat → List HVal → Tmps
  | _, [] => []
  | i, x :: xs => (i, x) :: argsT (i + 1) xs

theorem tget_argsT : ∀ (xs : List HVal) (i k : Nat), tget (argsT i xs) k = if i ≤ k then (xs[k - i]?).getD .any else .any
  | [], i, k => by simp [argsT, tget]
  | x :: xs, i, k => by
    simp only [argsT, tget]
    by_cases e : i = k
    · subst e; simp
    · rw [if_neg e, tget_argsT xs (i + 1) k]
      by_cases h : i + 1 ≤ k
      · rw [if_pos h, if_pos (by omega), show k - i = (k - (i + 1)) + 1 by omega]; simp
      · rw [if_neg h, if_neg (by omega)]

/-- A function's contract out of its body. -/
theorem fn_of_wp {P : Program} {f : FuncId} {fn : Func} {c : Code} {N : Nat} {args : List HVal} {h : Heap} {K : HVal → Heap → Prop} (hf : P.funcs[f]? = some fn) (hb : fn.body = some c) (hc : callable P f = true) (hN : fn.ntmps = N)
    (hl : args.length ≤ N) {K' : HVal → Heap → Prop} (hw : HWp P N c (postQ P fn.results K') (argsT 0 args) h) (hk' : ∀ r h', K' r h' → ∃ g : Heap, g.le h' ∧ K r g) : HFn P f args h K := by
  refine ⟨hc, fun E w vs R hL => calls_of_wp hf hb ?_⟩
  have hlen := hL.length
  refine Code.wp_mono ?_ (hw [] E w _ R ⟨?_, rfl, ?_⟩)
  · rintro e a' w' ⟨τ', h', E', q, ev, R', r'⟩
    cases e <;> simp only [postQ] at q <;> try exact q.elim
    all_goals
      obtain ⟨x, v, h1, hk0, hx⟩ := resV_run R' r' q
      obtain ⟨g, hg, hk⟩ := hk' _ _ hk0
      exact ⟨r'.defers, v, h1, x, g, E', hk, ev.forget hg, R'.forget hg, hx.imm fun b => Imm.le hg⟩
  · simp [hN]; omega
  · intro k
    rw [tget_argsT]
    simp only [Nat.zero_le, if_true, Nat.sub_zero]
    by_cases hk : k < args.length
    · have hx : args[k]? = some args[k] := List.getElem?_eq_getElem hk
      have hv : vs[k]? = some (vs[k]'(by omega)) := List.getElem?_eq_getElem (by omega)
      rw [hx]
      have hg : (vs.toArray ++ Array.replicate (fn.ntmps - vs.toArray.size) undef).getD k undef = vs[k]'(by omega) := by
        have hk' : k < vs.length := by omega
        simp [Array.getD, Array.getElem_append, hk']; omega
      rw [hg]
      exact hL.get k _ _ hx hv
    · rw [List.getElem?_eq_none (by omega)]
      exact .any _
variable {ds : List Deferred}

/-! ### regions that draw their order -/
def opTmps (ops : Array Oper) (o : Oper) : List Tmp :=
  (o.op.operands.toList.filterMap fun | .tmp t => some t | _ => none) ++ (match o.guard with | some (g, _) => ((ops[g]?).bind (·.dst)).toList | none => [])

/-- The slots as one operation sees them: none but its own operands. -/
def hevM (ops : Array Oper) (o : Oper) (τ : Tmps) : Operand → HVal
  | .tmp t => if (opTmps ops o).contains t then tget τ t else .any
  | x => hev τ x

theorem hevM_congr {ops : Array Oper} {o : Oper} {τ τ' : Tmps} (h : ∀ t ∈ opTmps ops o, tget τ t = tget τ' t) : hevM ops o τ = hevM ops o τ' := by
  funext x
  cases x with
  | tmp t =>
    simp only [hevM]
    split
    · rename_i hc; exact h t (by simpa using hc)
    · rfl
  | _ => rfl

/-- An operation that hands back one value, whatever the named rows are. -/
def StatOp (P : Program) (o : Oper) (ρ : Operand → HVal) (v : HVal) : Prop := ∀ h, OpW P o ρ h fun v' h' => v' = v ∧ h' = h

/-- A pair of a list; a pair that begins so. -/
def hasP : List (Nat × Nat) → Nat → Nat → Bool
  | [], _, _ => false
  | (a, b) :: r, x, i => (a == x && b == i) || hasP r x i
def hasL : List (Nat × Nat) → Nat → Bool
  | [], _ => false
  | (a, _) :: r, x => a == x || hasL r x
theorem hasL_not {x i : Nat} : ∀ {cr : List (Nat × Nat)}, hasL cr x = false → hasP cr x i = false
  | [], _ => rfl
  | (a, b) :: r, h => by
    simp only [hasL, Bool.or_eq_false_iff] at h
    simp only [hasP, h.1, Bool.false_and, Bool.false_or]
    exact hasL_not h.2
def isLd (o : Oper) : Bool := match o.op with | .load _ _ => true | _ => false
/-- A reading of one named row: as long as this row stays, it hands back the same value. -/
def ReadOp (P : Program) (o : Oper) (ρ : Operand → HVal) (h : Heap) (n : Nat) (v : HVal) : Prop := ∀ h', h' n = h n → OpW P o ρ h' fun v' h'' => v' = v ∧ h'' = h'
/-- The rows that have been read, and that an operation must leave if it may come before the reading. -/
def protL (cr : List (Nat × Nat)) (i : Nat) (pr : List (Nat × Nat)) (h h' : Heap) : Prop := ∀ p ∈ pr, hasP cr p.1 i = true → h' p.2 = h p.2

/-- How a region that draws is walked: in which order, or (alt) by cases of what comes first. -/
inductive Plan where
  | nil
  | op (i : Nat) (p : Plan)
  | alt (i : Nat) (p : Plan) (j : Nat) (q : Plan)

def OpL (P : Program) (ops : Array Oper) (ms : List Nat) (i : Nat) (cr : List (Nat × Nat)) (pr : List (Nat × Nat)) (τ : Tmps) (h : Heap) (C : List (Nat × Nat) → Tmps → Heap → Prop) : Prop :=
  match ops[i]? with
    | none => False
    | some o => match want ops τ o with
      | none => False
      | some true => if ms.contains i then (if isLd o then (∃ n v, ReadOp P o (hevM ops o τ) h n v ∧ C ((i, n) :: pr) (tput τ o.dst v) h) ∨ ∃ v, StatOp P o (hevM ops o τ) v ∧ C pr (tput τ o.dst v) h
            else OpW P o (hevM ops o τ) h fun v h' => protL cr i pr h h' ∧ C pr (tput τ o.dst v) h')
          else ∃ v, StatOp P o (hevM ops o τ) v ∧ C pr (tput τ o.dst v) h
      | some false => C pr (tput τ o.dst (.tup [])) h

def RegL (P : Program) (ops : Array Oper) (ms : List Nat) (cr : List (Nat × Nat)) : Plan → List (Nat × Nat) → Tmps → Heap → (Tmps → Heap → Prop) → Prop
  | .nil, _, τ, h, K => K τ h
  | .op i p, pr, τ, h, K => OpL P ops ms i cr pr τ h fun pr τ h => RegL P ops ms cr p pr τ h K
  | .alt i p j q, pr, τ, h, K => (OpL P ops ms i cr pr τ h fun pr τ h => RegL P ops ms cr p pr τ h K) ∧ OpL P ops ms j cr pr τ h fun pr τ h => RegL P ops ms cr q pr τ h K

def TEq (τ τ' : Tmps) : Prop := ∀ k, tget τ k = tget τ' k

theorem tget_tput (τ : Tmps) (d : Option Tmp) (v : HVal) (k : Nat) : tget (tput τ d v) k = if d = some k then v else tget τ k := by
  cases d with
  | none => simp [tput]
  | some d => simp only [tput, tget, Option.some.injEq]

theorem TEq.put {τ τ' : Tmps} (h : TEq τ τ') (d : Option Tmp) (v : HVal) : TEq (tput τ d v) (tput τ' d v) := fun k => by
  rw [tget_tput, tget_tput, h k]

theorem TEq.put_comm (τ : Tmps) {d e : Option Tmp} (u v : HVal) (hne : ∀ k, d = some k → e ≠ some k) : TEq (tput (tput τ d u) e v) (tput (tput τ e v) d u) := fun k => by
  simp only [tget_tput]
  by_cases h1 : e = some k <;> by_cases h2 : d = some k
  · exact absurd h1 (hne k h2)
  · simp [h1, h2]
  · simp [h1, h2]
  · simp [h1, h2]

theorem want_congr {ops : Array Oper} {o : Oper} {τ τ' : Tmps} (h : ∀ t ∈ opTmps ops o, tget τ t = tget τ' t) : want ops τ o = want ops τ' o := by
  unfold want
  split
  · rfl
  · rename_i g b hg
    split
    · rename_i d hd
      rw [h d (by simp [opTmps, hg, hd])]
    · rfl

theorem protL.sub {cr : List (Nat × Nat)} {i : Nat} {pr pr' : List (Nat × Nat)} {h h' : Heap} (hs : ∀ p ∈ pr', p ∈ pr ∨ ∀ j, hasP cr p.1 j = false) (x : protL cr i pr h h') : protL cr i pr' h h' := fun p hp hc => by
  rcases hs p hp with h1 | h1
  · exact x p h1 hc
  · rw [h1 i] at hc; cases hc
theorem sub_cons {cr pr pr' : List (Nat × Nat)} (hs : ∀ p ∈ pr', p ∈ pr ∨ ∀ j, hasP cr p.1 j = false) (q : Nat × Nat) : ∀ p ∈ q :: pr', p ∈ q :: pr ∨ ∀ j, hasP cr p.1 j = false := fun p hp => by
  rcases List.mem_cons.1 hp with rfl | hp
  · exact .inl List.mem_cons_self
  · exact (hs p hp).imp (List.mem_cons_of_mem _) id
theorem OpL.congr {P : Program} {ops : Array Oper} {ms : List Nat} {cr : List (Nat × Nat)} {i : Nat} {C C' : List (Nat × Nat) → Tmps → Heap → Prop} {pr pr' : List (Nat × Nat)} {τ τ' : Tmps} {h : Heap}
    (hC : ∀ (pr pr' : List (Nat × Nat)) (τ τ' : Tmps) (h : Heap), (∀ p ∈ pr', p ∈ pr ∨ ∀ j, hasP cr p.1 j = false) → TEq τ τ' → C pr τ h → C' pr' τ' h) (hs : ∀ p ∈ pr', p ∈ pr ∨ ∀ j, hasP cr p.1 j = false) (e : TEq τ τ') (r : OpL P ops ms i cr pr τ h C) : OpL P ops ms i cr pr' τ' h C' := by
  unfold OpL at r ⊢
  cases ho : ops[i]? with
  | none => simp [ho] at r
  | some o =>
    simp only [ho] at r ⊢
    rw [← want_congr (ops := ops) (o := o) (τ := τ) (τ' := τ') fun t _ => e t]
    cases hw : want ops τ o with
    | none => simp [hw] at r
    | some c =>
      simp only [hw] at r ⊢
      rw [← hevM_congr (ops := ops) (o := o) (τ := τ) (τ' := τ') fun t _ => e t]
      cases c with
      | false => exact hC _ _ _ _ h hs (e.put _ _) r
      | true =>
        simp only at r ⊢
        split at r
        · rename_i hm; rw [if_pos hm]
          split at r
          · rename_i hl; rw [if_pos hl]
            rcases r with ⟨n, v, hr, x⟩ | ⟨v, hr, x⟩
            · exact .inl ⟨n, v, hr, hC _ _ _ _ h (sub_cons hs _) (e.put _ _) x⟩
            · exact .inr ⟨v, hr, hC _ _ _ _ h hs (e.put _ _) x⟩
          · rename_i hl; rw [if_neg hl]
            exact r.mono fun v h' x => ⟨x.1.sub hs, hC _ _ _ _ h' hs (e.put _ _) x.2⟩
        · rename_i hm; rw [if_neg hm]
          obtain ⟨v, hs', x⟩ := r
          exact ⟨v, hs', hC _ _ _ _ h hs (e.put _ _) x⟩
theorem RegL.congr {P : Program} {ops : Array Oper} {ms : List Nat} {cr : List (Nat × Nat)} {K : Tmps → Heap → Prop} (hK : ∀ τ τ' h, TEq τ τ' → K τ h → K τ' h) : ∀ (l : Plan) (pr pr' : List (Nat × Nat)) (τ τ' : Tmps) (h : Heap), (∀ p ∈ pr', p ∈ pr ∨ ∀ j, hasP cr p.1 j = false) → TEq τ τ' → RegL P ops ms cr l pr τ h K → RegL P ops ms cr l pr' τ' h K
  | .nil, pr, pr', τ, τ', h, hs, e, r => hK _ _ _ e r
  | .op i l, pr, pr', τ, τ', h, hs, e, r => OpL.congr (fun pr pr' τ τ' h hs e r => RegL.congr hK l pr pr' τ τ' h hs e r) hs e r
  | .alt i l j q, pr, pr', τ, τ', h, hs, e, r => ⟨OpL.congr (fun pr pr' τ τ' h hs e r => RegL.congr hK l pr pr' τ τ' h hs e r) hs e r.1, OpL.congr (fun pr pr' τ τ' h hs e r => RegL.congr hK q pr pr' τ τ' h hs e r) hs e r.2⟩

/-- Two operations that do not touch each other's slots. -/
def apartB (ops : Array Oper) (x y : Oper) : Bool :=
  (match x.dst with | some d => !(opTmps ops y).contains d && !(y.dst == some d) | none => true) && (match y.dst with | some d => !(opTmps ops x).contains d | none => true)

theorem apartB_spec {ops : Array Oper} {x y : Oper} (h : apartB ops x y = true) : (∀ d, x.dst = some d → d ∉ opTmps ops y) ∧ (∀ d, x.dst = some d → y.dst ≠ some d) ∧ (∀ d, y.dst = some d → d ∉ opTmps ops x) := by
  unfold apartB at h
  refine ⟨fun d hd => ?_, fun d hd => ?_, fun d hd => ?_⟩ <;> simp [hd] at h
  · exact h.1.1
  · exact h.1.2
  · exact h.2

/-- May 'i' come before 'x', which stands ahead of it? -/
def mayB (ms : List Nat) (cr : List (Nat × Nat)) (x i : Nat) (ox oi : Oper) : Bool := !ms.contains x || (isLd ox && (hasP cr x i || isLd oi || !ms.contains i))

/-- An operation behind one that hands back one value may come before it. -/
theorem RegL.swap {P : Program} {ops : Array Oper} {ms : List Nat} {cr : List (Nat × Nat)} {K : Tmps → Heap → Prop} (hK : ∀ τ τ' h, TEq τ τ' → K τ h → K τ' h) {x i : Nat} {ox oi : Oper} {l : Plan} {pr : List (Nat × Nat)} {τ : Tmps} {h : Heap}
    (hx : ops[x]? = some ox) (hi : ops[i]? = some oi) (hm : mayB ms cr x i ox oi = true) (hap : apartB ops ox oi = true) (r : RegL P ops ms cr (.op x (.op i l)) pr τ h K) : RegL P ops ms cr (.op i (.op x l)) pr τ h K := by
  obtain ⟨a1, a2, a3⟩ := apartB_spec hap
  have ei : ∀ v, (∀ t ∈ opTmps ops oi, tget (tput τ ox.dst v) t = tget τ t) := fun v t ht => by
    rw [tget_tput, if_neg]; intro e; exact a1 t e ht
  have ex : ∀ v, (∀ t ∈ opTmps ops ox, tget (tput τ oi.dst v) t = tget τ t) := fun v t ht => by
    rw [tget_tput, if_neg]; intro e; exact a3 t e ht
  have hc : ∀ u v, TEq (tput (tput τ ox.dst u) oi.dst v) (tput (tput τ oi.dst v) ox.dst u) := fun u v => TEq.put_comm τ u v a2
  have ids : ∀ pr : List (Nat × Nat), ∀ p ∈ pr, p ∈ pr ∨ ∀ j, hasP cr p.1 j = false := fun _ _ h => .inl h
  have sw : ∀ (a b : Nat × Nat), ∀ p ∈ b :: a :: pr, p ∈ a :: b :: pr ∨ ∀ j, hasP cr p.1 j = false := fun a b p hp => by
    left
    simp only [List.mem_cons] at hp ⊢
    rcases hp with h1 | h1 | h1
    · exact .inr (.inl h1)
    · exact .inl h1
    · exact .inr (.inr h1)
  unfold RegL OpL at r
  simp only [hx] at r
  cases hwx : want ops τ ox with
  | none => simp [hwx] at r
  | some cx =>
    simp only [hwx] at r
    have hwx' : ∀ v, want ops (tput τ oi.dst v) ox = some cx := fun v => by rw [want_congr (ex v)]; exact hwx
    -- nothing is kept of x
    have key : ∀ u, RegL P ops ms cr (.op i l) pr (tput τ ox.dst u) h K →
        (∀ τ' h' pr', RegL P ops ms cr l pr' (tput (tput τ oi.dst τ') ox.dst u) h' K → RegL P ops ms cr (.op x l) pr' (tput τ oi.dst τ') h' K) →
        RegL P ops ms cr (.op i (.op x l)) pr τ h K := by
      intro u r hback
      unfold RegL OpL at r
      rw [RegL]; unfold OpL
      simp only [hi] at r ⊢
      rw [want_congr (ei u), hevM_congr (ei u)] at r
      cases hwi : want ops τ oi with
      | none => simp [hwi] at r
      | some ci =>
        simp only [hwi] at r ⊢
        cases ci with
        | false => exact hback _ _ _ (RegL.congr hK l _ _ _ _ h (ids _) (hc _ _) r)
        | true =>
          simp only at r ⊢
          split at r
          · rename_i hmi; rw [if_pos hmi]
            split at r
            · rename_i hl; rw [if_pos hl]
              rcases r with ⟨n, v, hr, y⟩ | ⟨v, hr, y⟩
              · exact .inl ⟨n, v, hr, hback _ _ _ (RegL.congr hK l _ _ _ _ h (ids _) (hc _ _) y)⟩
              · exact .inr ⟨v, hr, hback _ _ _ (RegL.congr hK l _ _ _ _ h (ids _) (hc _ _) y)⟩
            · rename_i hl; rw [if_neg hl]
              exact r.mono fun v h' y => ⟨y.1, hback _ _ _ (RegL.congr hK l _ _ _ _ h' (ids _) (hc _ _) y.2)⟩
          · rename_i hmi; rw [if_neg hmi]
            obtain ⟨v, hs, y⟩ := r
            exact ⟨v, hs, hback _ _ _ (RegL.congr hK l _ _ _ _ h (ids _) (hc _ _) y)⟩
    cases cx with
    | false =>
      refine key _ r fun u h' pr' y => ?_
      rw [RegL]; unfold OpL; simp only [hx, hwx' u]; exact y
    | true =>
      simp only at r
      by_cases hmx : ms.contains x = true
      · rw [if_pos hmx] at r
        simp only [mayB, hmx, Bool.not_true, Bool.false_or, Bool.and_eq_true, Bool.or_eq_true, Bool.not_eq_true'] at hm
        obtain ⟨hlx, hm⟩ := hm
        rw [if_pos hlx] at r
        rcases r with ⟨n, v, hr, r⟩ | ⟨v, hs, r⟩
        case inr =>
          refine key v r fun u h' pr' y => ?_
          rw [RegL]; unfold OpL; simp only [hx, hwx' u, hmx, hlx, if_true]
          exact .inr ⟨v, by rw [hevM_congr (ex u)]; exact hs, y⟩
        -- x is a reading
        have back : ∀ (u : HVal) (h' : Heap) (pr' : List (Nat × Nat)), h' n = h n → RegL P ops ms cr l ((x, n) :: pr') (tput (tput τ oi.dst u) ox.dst v) h' K → RegL P ops ms cr (.op x l) pr' (tput τ oi.dst u) h' K := by
          intro u h' pr' e y
          rw [RegL]; unfold OpL; simp only [hx, hwx' u, hmx, hlx, if_true]
          exact .inl ⟨n, v, fun h'' e' => by rw [hevM_congr (ex u)]; exact hr h'' (e'.trans e), y⟩
        unfold RegL OpL at r
        rw [RegL]; unfold OpL
        simp only [hi] at r ⊢
        rw [want_congr (ei v), hevM_congr (ei v)] at r
        cases hwi : want ops τ oi with
        | none => simp [hwi] at r
        | some ci =>
          simp only [hwi] at r ⊢
          cases ci with
          | false => exact back _ _ _ rfl (RegL.congr hK l _ _ _ _ h (ids _) (hc _ _) r)
          | true =>
            simp only at r ⊢
            split at r
            · rename_i hmi; rw [if_pos hmi]
              split at r
              · rename_i hl; rw [if_pos hl]
                rcases r with ⟨m, u, hri, y⟩ | ⟨u, hri, y⟩
                · exact .inl ⟨m, u, hri, back _ _ _ rfl (RegL.congr hK l _ _ _ _ h (sw _ _) (hc _ _) y)⟩
                · exact .inr ⟨u, hri, back _ _ _ rfl (RegL.congr hK l _ _ _ _ h (ids _) (hc _ _) y)⟩
              · rename_i hl; rw [if_neg hl]
                refine r.mono fun u h' y => ⟨y.1.sub fun p hp => .inl (List.mem_cons_of_mem _ hp), ?_⟩
                have hcx : hasP cr x i = true := by
                  rcases hm with (h1 | h1) | h1
                  · exact h1
                  · exact absurd h1 hl
                  · rw [hmi] at h1; cases h1
                exact back _ _ _ (y.1 (x, n) List.mem_cons_self hcx) (RegL.congr hK l _ _ _ _ h' (ids _) (hc _ _) y.2)
            · rename_i hmi; rw [if_neg hmi]
              obtain ⟨u, hs, y⟩ := r
              exact ⟨u, hs, back _ _ _ rfl (RegL.congr hK l _ _ _ _ h (ids _) (hc _ _) y)⟩
      · rw [if_neg hmx] at r
        obtain ⟨v, hs, r⟩ := r
        refine key v r fun u h' pr' y => ?_
        rw [RegL]; unfold OpL; simp only [hx, hwx' u]
        rw [if_neg hmx]
        exact ⟨v, by rw [hevM_congr (ex u)]; exact hs, y⟩

/-- What cannot be carried out before 'x' has been. -/
def blk : List Oper → Nat → List Nat → List Nat
  | [], _, B => B
  | o :: l, j, B => blk l (j + 1) (if o.after.toList.any (fun e => Region.binds .any e && B.contains e.on) then j :: B else B)

theorem blk_sub : ∀ (l : List Oper) (j : Nat) (B : List Nat) (b : Nat), b ∈ B → b ∈ blk l j B
  | [], _, _, _, h => h
  | o :: l, j, B, b, h => by
    unfold blk
    refine blk_sub l (j + 1) _ b ?_
    split
    · exact List.mem_cons_of_mem _ h
    · exact h

theorem blk_why : ∀ (l : List Oper) (j : Nat) (B : List Nat) (b : Nat), b ∈ blk l j B → b ∈ B ∨ ∃ o e, j ≤ b ∧ l[b - j]? = some o ∧ e ∈ o.after.toList ∧ Region.binds .any e = true ∧ e.on ∈ blk l j B
  | [], _, _, _, h => .inl h
  | o :: l, j, B, b, h => by
    unfold blk at h
    rcases blk_why l (j + 1) _ b h with h1 | ⟨o', e, h1, h2, h3, h4, h5⟩
    · split at h1
      · rename_i hany
        rcases List.mem_cons.1 h1 with rfl | h1
        · right
          obtain ⟨e, he, hb⟩ := List.any_eq_true.1 hany
          simp only [Bool.and_eq_true, List.contains_iff_mem] at hb
          exact ⟨o, e, Nat.le_refl _, by simp, he, hb.1, blk_sub _ _ _ _ hb.2⟩
        · exact .inl h1
      · exact .inl h1
    · refine .inr ⟨o', e, by omega, ?_, h3, h4, ?_⟩
      · rw [show b - j = (b - (j + 1)) + 1 by omega]; simpa using h2
      · unfold blk; exact h5

/-- Is the plan one that stands for all orders? 'ms': the operations that touch named rows; U: those that are left. -/
def validB (ops : Array Oper) (ms : List Nat) (cr : List (Nat × Nat)) : Plan → List Nat → Bool
  | .nil, U => U.isEmpty
  | .op x p, U => U.contains x && (let B := blk ops.toList 0 [x]
      (U.erase x).all fun i => B.contains i || (match ops[x]?, ops[i]? with | some ox, some oi => mayB ms cr x i ox oi && apartB ops ox oi | _, _ => false)) && validB ops ms cr p (U.erase x)
  | .alt x p y q, U => U.contains x && U.contains y && (let B := blk ops.toList 0 [x]
      let C := blk ops.toList 0 [y]
      U.all fun i => i == x || i == y || B.contains i || C.contains i) && validB ops ms cr p (U.erase x) && validB ops ms cr q (U.erase y)

def ordB (ops : Array Oper) (ms : List Nat) (p : Plan) (cr : List (Nat × Nat)) : Bool :=
  validB ops ms cr p (List.range ops.size) &&
  (List.range ops.size).all fun i => match ops[i]? with | some o => o.after.toList.all fun e => !Region.binds .any e || decide (e.on < i) | none => true

/-- A set of operations that may have been carried out. -/
def ClosedL (ops : Array Oper) (L : Nat → Prop) : Prop := ∀ (j : Nat) (o : Oper), ops[j]? = some o → L j → ∀ e ∈ o.after.toList, Region.binds .any e = true → L e.on

theorem bef_listed {ops : Array Oper} {L : Nat → Prop} (hc : ClosedL ops L) {x : Nat} (hx : ¬ L x) : ∀ (l : List Oper) (j : Nat) (B : List Nat), (∀ k o, l[k]? = some o → ops[j + k]? = some o) → (∀ b ∈ B, ¬ L b) → ∀ b ∈ blk l j B, ¬ L b
  | [], _, _, _, hB, b, h => hB b h
  | o :: l, j, B, hl, hB, b, h => by
    unfold blk at h
    refine bef_listed hc hx l (j + 1) _ (fun k o hk => by have := hl (k + 1) o (by simpa using hk); rwa [show j + 1 + k = j + (k + 1) by omega]) ?_ b h
    intro b' hb'
    split at hb'
    · rename_i hany
      rcases List.mem_cons.1 hb' with rfl | hb'
      · intro hL
        obtain ⟨e, he, hb⟩ := List.any_eq_true.1 hany
        simp only [Bool.and_eq_true, List.contains_iff_mem] at hb
        exact hB _ hb.2 (hc b' o (by simpa using hl 0 o rfl) hL e he hb.1)
      · exact hB b' hb'
    · exact hB b' hb'

theorem bef_ready {ops : Array Oper} {L : Nat → Prop} (hc : ClosedL ops L) {x i : Nat} (hx : ¬ L x) (hne : i ≠ x) {oi : Oper} (hi : ops[i]? = some oi) (hr : ∀ e ∈ oi.after.toList, Region.binds .any e = true → L e.on) : (blk ops.toList 0 [x]).contains i = false := by
  cases hb : (blk ops.toList 0 [x]).contains i with
  | false => rfl
  | true =>
    exfalso
    rw [List.contains_iff_mem] at hb
    have hlist := bef_listed hc hx ops.toList 0 [x] (fun k o hk => by simpa using hk) (by simpa using hx)
    rcases blk_why _ _ _ _ hb with h1 | ⟨o, e, _, h2, h3, h4, h5⟩
    · exact hne (by simpa using h1)
    · have : o = oi := by
        simp only [Nat.sub_zero, Array.getElem?_toList] at h2
        rw [hi] at h2; exact (Option.some.inj h2).symm
      subst this
      exact hlist _ h5 (hr e h3 h4)

/-- An operation that may come first, and the plan without it. -/
inductive Front (ops : Array Oper) (ms : List Nat) (cr : List (Nat × Nat)) (i : Nat) (oi : Oper) : Plan → Plan → Prop where
  | here (p : Plan) : Front ops ms cr i oi (.op i p) p
  | skip {x : Nat} {ox : Oper} {p p' : Plan} (hox : ops[x]? = some ox) (hm : mayB ms cr x i ox oi = true) (hap : apartB ops ox oi = true) (f : Front ops ms cr i oi p p') : Front ops ms cr i oi (.op x p) (.op x p')
  | left (p : Plan) (j : Nat) (q : Plan) : Front ops ms cr i oi (.alt i p j q) p
  | right (j : Nat) (p q : Plan) : Front ops ms cr i oi (.alt j p i q) q

/-- The chosen operation comes to the front. -/
theorem RegL.front {P : Program} {ops : Array Oper} {ms : List Nat} {cr : List (Nat × Nat)} {K : Tmps → Heap → Prop} (hK : ∀ τ τ' h, TEq τ τ' → K τ h → K τ' h) {i : Nat} {oi : Oper} (hi : ops[i]? = some oi) {p p' : Plan} (f : Front ops ms cr i oi p p') :
    ∀ (pr : List (Nat × Nat)) (τ : Tmps) (h : Heap), RegL P ops ms cr p pr τ h K → RegL P ops ms cr (.op i p') pr τ h K := by
  induction f with
  | here p => intro pr τ h r; exact r
  | left p j q => intro pr τ h r; exact r.1
  | right j p q => intro pr τ h r; exact r.2
  | @skip x ox p p' hox hm hap f ih =>
    intro pr τ h r
    refine RegL.swap hK hox hi hm hap ?_
    rw [RegL] at r ⊢
    unfold OpL at r ⊢
    simp only [hox] at r ⊢
    cases hw : want ops τ ox with
    | none => simp [hw] at r
    | some c =>
      simp only [hw] at r ⊢
      cases c with
      | false => exact ih _ _ h r
      | true =>
        simp only at r ⊢
        by_cases hmx : ms.contains x = true
        · rw [if_pos hmx] at r ⊢
          have hlx : isLd ox = true := by
            simp only [mayB, hmx, Bool.not_true, Bool.false_or, Bool.and_eq_true] at hm
            exact hm.1
          rw [if_pos hlx] at r ⊢
          rcases r with ⟨n, v, hs, r⟩ | ⟨v, hs, r⟩
          · exact .inl ⟨n, v, hs, ih _ _ h r⟩
          · exact .inr ⟨v, hs, ih _ _ h r⟩
        · rw [if_neg hmx] at r ⊢
          obtain ⟨v, hs, r⟩ := r; exact ⟨v, hs, ih _ _ h r⟩

theorem front_of {ops : Array Oper} {ms : List Nat} {cr : List (Nat × Nat)} {i : Nat} {oi : Oper} (hoi : ops[i]? = some oi) : ∀ (p : Plan) (U : List Nat), validB ops ms cr p U = true → U.Nodup → i ∈ U →
    (∀ x ∈ U, x ≠ i → (blk ops.toList 0 [x]).contains i = false) → ∃ p', Front ops ms cr i oi p p' ∧ validB ops ms cr p' (U.erase i) = true
  | .nil, U, hv, _, hi, _ => by
    simp only [validB, List.isEmpty_iff] at hv
    subst hv; cases hi
  | .op x p, U, hv, hnd, hi, hb => by
    simp only [validB, Bool.and_eq_true, List.all_eq_true] at hv
    obtain ⟨⟨hx, hall⟩, hp⟩ := hv
    by_cases e : x = i
    · subst e; exact ⟨p, .here p, hp⟩
    · have hie : i ∈ U.erase x := (List.mem_erase_of_ne (Ne.symm e)).2 hi
      have h1 := hall i hie
      have hxU : x ∈ U := by simpa using hx
      rw [hb x hxU e, Bool.false_or] at h1
      cases hox : ops[x]? with
      | none => simp [hox] at h1
      | some ox =>
        simp only [hox, hoi, Bool.and_eq_true] at h1
        obtain ⟨p', f, hp'⟩ := front_of hoi p (U.erase x) hp (hnd.erase x) hie fun y hy hne => hb y (List.mem_of_mem_erase hy) hne
        refine ⟨.op x p', .skip hox h1.1 h1.2 f, ?_⟩
        simp only [validB, Bool.and_eq_true, List.all_eq_true]
        refine ⟨⟨by simpa using (List.mem_erase_of_ne e).2 hxU, fun j hj => hall j ?_⟩, ?_⟩
        · rw [List.erase_comm] at hj; exact List.mem_of_mem_erase hj
        · rw [List.erase_comm]; exact hp'
  | .alt x p y q, U, hv, hnd, hi, hb => by
    simp only [validB, Bool.and_eq_true, List.all_eq_true, Bool.or_eq_true, beq_iff_eq] at hv
    obtain ⟨⟨⟨⟨hx, hy⟩, hall⟩, hp⟩, hq⟩ := hv
    by_cases e : x = i
    · subst e; exact ⟨p, .left p y q, hp⟩
    · by_cases e2 : y = i
      · subst e2; exact ⟨q, .right x p q, hq⟩
      · exfalso
        rcases hall i hi with ((h1 | h1) | h1) | h1
        · exact e h1.symm
        · exact e2 h1.symm
        · rw [hb x (by simpa using hx) e] at h1; cases h1
        · rw [hb y (by simpa using hy) e2] at h1; cases h1

/-- The order of the text stands for all orders. -/
theorem regL_any {P : Program} {N : Nat} {ops : Array Oper} {ms : List Nat} {cr : List (Nat × Nat)} {Q : Exit → Tmps → Heap → Prop} (hN : dstOps N ops = true) (keep : List Nat) {E₀ : Env} {h₀ : Heap} {w₀ : World}
    (hback : ∀ (i : Nat) (o : Oper), ops[i]? = some o → ∀ e ∈ o.after.toList, Region.binds .any e = true → e.on < i) :
    ∀ (fuel : Nat) (listed : Array Bool) (p : Plan) (l : List Nat), listed.size = ops.size → l.Nodup → (∀ i, i ∈ l ↔ listed[i]? = some false) → fuel = l.length →
      validB ops ms cr p l = true →
      ClosedL ops (fun i => listed[i]? = some true) →
      ∀ (pr : List (Nat × Nat)) (τ : Tmps) (h : Heap), RegL P ops ms cr p pr τ h (fun τ' h' => Q .normal (Hl.prune keep τ') h') → ∀ E w a, Ev E₀ h₀ w₀ E h w → Rel E h w → RepT ds E h w N τ a →
      wpAny P .any ops (AfterC ds N Q E₀ h₀ w₀) fuel listed a w
  | 0, listed, p, l, hsz, hnd, hl, hf, hp, hcl, pr, τ, h, r, E, w, a, ev, R, rt => by
    have : l = [] := List.length_eq_zero_iff.1 hf.symm
    subst this
    have : p = .nil := by cases p <;> simp [validB] at hp ⊢
    subst this
    refine ⟨?_, ⟨Hl.prune keep τ, h, E, r, ev, R, rt.prune keep⟩⟩
    unfold Region.ready
    rw [List.filter_eq_nil_iff]
    intro i hi hc
    simp only [List.mem_range] at hi
    simp only [Bool.and_eq_true, Bool.not_eq_true'] at hc
    have hlt : i < listed.size := by omega
    have : listed[i]? = some false := by
      rw [Array.getElem?_eq_getElem hlt]
      have := hc.1
      simp only [Array.getD, hlt, dif_pos] at this
      rw [← this]; rfl
    exact absurd ((hl i).2 this) (by simp)
  | fuel + 1, listed, p, l, hsz, hnd, hl, hf, hp, hcl, pr, τ, h, r, E, w, a, ev, R, rt => by
    have hK : ∀ τ τ' h, TEq τ τ' → Q .normal (Hl.prune keep τ) h → Q .normal (Hl.prune keep τ') h := fun τ τ' h e q => by
      have : Hl.prune keep τ = Hl.prune keep τ' := by unfold Hl.prune; exact List.map_congr_left fun k _ => by rw [e k]
      rwa [← this]
    have hready : ∀ i, i ∈ Region.ready .any ops listed → i ∈ l ∧ ∃ o, ops[i]? = some o ∧ ∀ e ∈ o.after.toList, Region.binds .any e = true → listed[e.on]? = some true := by
      intro i hi
      unfold Region.ready at hi
      rw [List.mem_filter] at hi
      obtain ⟨hi, hc⟩ := hi
      simp only [List.mem_range] at hi
      simp only [Bool.and_eq_true, Bool.not_eq_true'] at hc
      have hlt : i < listed.size := by omega
      have hlf : listed[i]? = some false := by
        rw [Array.getElem?_eq_getElem hlt]
        have := hc.1
        simp only [Array.getD, hlt, dif_pos] at this
        rw [← this]; rfl
      refine ⟨(hl i).2 hlf, ops[i], Array.getElem?_eq_getElem hi, fun e he hb => ?_⟩
      have h2 := hc.2
      simp only [Array.getElem?_eq_getElem hi, Option.map_some, Option.getD_some] at h2
      rw [Array.all_eq_true_iff_forall_mem] at h2
      have := h2 e (by simpa using he)
      simp only [hb, Bool.not_true, Bool.false_or] at this
      by_cases hel : e.on < listed.size
      · simp only [Array.getD, hel, dif_pos] at this
        rw [Array.getElem?_eq_getElem hel, ← this]; rfl
      · simp [Array.getD, hel] at this
    refine ⟨fun hnil => ?_, fun i hi => ?_⟩
    · -- something is ready
      exfalso
      have hne : l ≠ [] := by intro e; simp [e] at hf
      -- the least of the operations that are left
      have : ∃ m ∈ l, ∀ j ∈ l, m ≤ j := by
        obtain ⟨x, hx⟩ := List.exists_mem_of_ne_nil l hne
        have key : ∀ n, ∀ x ∈ l, x ≤ n → ∃ m ∈ l, ∀ j ∈ l, m ≤ j := by
          intro n
          induction n with
          | zero => intro x hx hn; exact ⟨x, hx, fun j _ => by omega⟩
          | succ n ih =>
            intro x hx hn
            by_cases hall : ∀ j ∈ l, x ≤ j
            · exact ⟨x, hx, hall⟩
            · have : ∃ j ∈ l, j < x := by
                apply Classical.byContradiction
                intro hcon
                exact hall fun j hj => by
                  apply Classical.byContradiction
                  intro hlt
                  exact hcon ⟨j, hj, by omega⟩
              obtain ⟨j, hj, hlt⟩ := this
              exact ih j hj (by omega)
        exact key x x hx (Nat.le_refl _)
      obtain ⟨m, hm, hmin⟩ := this
      have hmf := (hl m).1 hm
      have hmlt : m < listed.size := (Array.getElem?_eq_some_iff.1 hmf).1
      have hmo : m < ops.size := by omega
      have hmem : m ∈ Region.ready .any ops listed := by
        unfold Region.ready
        rw [List.mem_filter]
        refine ⟨by simpa using hmo, ?_⟩
        simp only [Bool.and_eq_true, Bool.not_eq_true']
        refine ⟨?_, ?_⟩
        · simp only [Array.getD, hmlt, dif_pos]
          have := (Array.getElem?_eq_some_iff.1 hmf).2
          exact this
        · simp only [Array.getElem?_eq_getElem hmo, Option.map_some, Option.getD_some]
          rw [Array.all_eq_true_iff_forall_mem]
          intro e he
          cases hb : Region.binds .any e with
          | false => rfl
          | true =>
            simp only [Bool.not_true, Bool.false_or]
            have hlt := hback m _ (Array.getElem?_eq_getElem hmo) e (by simpa using he) hb
            have hel : e.on < listed.size := by omega
            simp only [Array.getD, hel, dif_pos]
            cases hv : listed[e.on] with
            | true => exact hv
            | false =>
              have := hmin e.on ((hl e.on).2 (by rw [Array.getElem?_eq_getElem hel, hv]))
              omega
      rw [hnil] at hmem
      simp at hmem
    · obtain ⟨hil, o, ho, hedges⟩ := hready i hi
      obtain ⟨p', hfr, hp'⟩ := front_of ho p l hp hnd hil fun x hx hne => bef_ready hcl (x := x) (i := i) (by simp [(hl x).1 hx]) (Ne.symm hne) ho hedges
      have hfront := RegL.front hK ho hfr pr τ h r
      unfold wpOp
      simp only [ho]
      have hdst : ∀ k, o.dst = some k → k < N := fun k hk => dstOps_get hN i o k ho hk
      have hil' : listed[i]? = some false := (hl i).1 hil
      have hilt : i < listed.size := (Array.getElem?_eq_some_iff.1 hil').1
      have hrest : ∀ (pr' : List (Nat × Nat)) (τ' : Tmps) (h' : Heap), RegL P ops ms cr p' pr' τ' h' (fun τ' h' => Q .normal (Hl.prune keep τ') h') → ∀ E' w' a', Ev E₀ h₀ w₀ E' h' w' → Rel E' h' w' → RepT ds E' h' w' N τ' a' →
          wpAny P .any ops (AfterC ds N Q E₀ h₀ w₀) fuel (listed.setIfInBounds i true) a' w' := by
        intro pr' τ' h' r' E' w' a' ev' R' rt'
        refine regL_any hN keep hback fuel _ p' (l.erase i) (by simpa using hsz) (hnd.erase i) ?_ (by rw [List.length_erase_of_mem hil]; omega) hp' ?_ pr' τ' h' r' E' w' a' ev' R' rt'
        · intro j
          rw [hnd.mem_erase_iff]
          by_cases e : j = i
          · subst e
            simp [hilt]
          · rw [Array.getElem?_setIfInBounds_ne (Ne.symm e), ← hl j]
            simp [e]
        · intro j oj hoj hL e he hb
          by_cases ej : j = i
          · subst ej
            rw [ho] at hoj
            obtain rfl := Option.some.inj hoj
            have := hedges e he hb
            by_cases e2 : e.on = j
            · rw [e2] at this; rw [this] at hil'; simp at hil'
            · rw [Array.getElem?_setIfInBounds_ne (Ne.symm e2)]; exact this
          · rw [Array.getElem?_setIfInBounds_ne (Ne.symm ej)] at hL
            have := hcl j oj hoj hL e he hb
            by_cases e2 : e.on = i
            · rw [e2] at this; rw [this] at hil'; simp at hil'
            · rw [Array.getElem?_setIfInBounds_ne (Ne.symm e2)]; exact this
      rw [RegL] at hfront
      unfold OpL at hfront
      simp only [ho] at hfront
      have hmask : ∀ x, Rep E h w (hevM ops o τ x) (a.eval x) := fun x => by
        cases x with
        | tmp t =>
          simp only [hevM]
          split
          · exact rt.get t
          · exact .any _
        | const v => exact rt.hev (.const v)
        | global g => exact rt.hev (.global g)
        | func f => exact rt.hev (.func f)
      cases hw : want ops τ o with
      | none => simp [hw] at hfront
      | some c =>
        simp only [hw] at hfront
        have hwant := want_sound rt hw (dstOps_get hN)
        rw [hwant]
        cases c with
        | false =>
          rw [if_neg (by simp)]
          exact hrest _ _ h hfront E w _ ev R (rt.put o.dst hdst (Rep.tup [] [] rfl (by simp)))
        | true =>
          rw [if_pos rfl]
          left
          simp only at hfront
          split at hfront
          · split at hfront
            · rcases hfront with ⟨n, v, hs, hfront⟩ | ⟨v, hs, hfront⟩
              · refine Runs.wp ((hs h rfl E w _ R hmask).mono ?_)
                rintro c w' ⟨x, h', E', ⟨rfl, rfl⟩, ev', R', rx⟩
                exact hrest _ _ _ hfront E' w' _ (ev.trans ev') R' ((rt.ev ev').put o.dst hdst rx)
              · refine Runs.wp ((hs h E w _ R hmask).mono ?_)
                rintro c w' ⟨x, h', E', ⟨rfl, rfl⟩, ev', R', rx⟩
                exact hrest _ _ _ hfront E' w' _ (ev.trans ev') R' ((rt.ev ev').put o.dst hdst rx)
            · refine Runs.wp ((hfront E w _ R hmask).mono ?_)
              rintro v w' ⟨x, h', E', k, ev', R', rx⟩
              exact hrest _ _ h' k.2 E' w' _ (ev.trans ev') R' ((rt.ev ev').put o.dst hdst rx)
          · obtain ⟨v, hs, hfront⟩ := hfront
            refine Runs.wp ((hs h E w _ R hmask).mono ?_)
            rintro c w' ⟨x, h', E', ⟨rfl, rfl⟩, ev', R', rx⟩
            exact hrest _ _ _ hfront E' w' _ (ev.trans ev') R' ((rt.ev ev').put o.dst hdst rx)

theorem HWp.region_draw {P : Program} {N id : Nat} {ops : Array Oper} {ms : List Nat} {ord : Plan} {cr : List (Nat × Nat)} {Q : Exit → Tmps → Heap → Prop} {τ : Tmps} {h : Heap} (hmix : P.follows .mixedOrders = true) (hN : dstOps N ops = true) (hord : ordB ops ms ord cr = true) (keep : List Nat)
    (hr : RegL P ops ms cr ord [] τ h fun τ' h' => Q .normal (Hl.prune keep τ') h') : HWp P N (.region id ops true) Q τ h := by
  intro ds E w a R r
  simp only [ordB, Bool.and_eq_true] at hord
  obtain ⟨h1, h5⟩ := hord
  rw [List.all_eq_true] at h5
  refine wp_region_any hmix ?_
  have ev : Ev E h w E h { w with drawn := w.drawn + 1 } := ⟨Nat.le_refl _, fun _ hb => ⟨rfl, hb⟩, fun _ _ => rfl, fun _ hn => ⟨rfl, hn⟩, rfl, rfl⟩
  have R' : Rel E h { w with drawn := w.drawn + 1 } := ⟨R.fin, R.dom, R.lt, R.apart, fun n o hn => (R.obj n o hn).ev ev rfl rfl fun _ _ _ => rfl, R.laid.ev ev⟩
  refine regL_any hN keep ?_ ops.size _ ord (List.range ops.size) (by simp) List.nodup_range ?_ (by simp) h1 ?_ [] τ h hr E _ a ev R' (r.ev ev)
  · intro i o ho e he hb
    have := h5 i (by simp; exact (Array.getElem?_eq_some_iff.1 ho).1)
    simp only [ho, List.all_eq_true] at this
    have := this e he
    simpa [hb] using this
  · intro i
    rw [List.mem_range]
    constructor
    · intro hi; simp [hi]
    · intro hi; have := (Array.getElem?_eq_some_iff.1 hi).1; simpa using this
  · intro j o ho hL
    rw [Array.getElem?_replicate] at hL
    split at hL <;> simp at hL

/-- A step that comes to one value. -/
def Det (F : (HVal → Prop) → Prop) : Prop := ∀ K, F K → ∃ v, K v ∧ ∀ K' : HVal → Prop, K' v → F K'

theorem det_const (v : HVal) : Det fun K => K v := fun K hk => ⟨v, hk, fun _ h => h⟩
theorem det_and {c : Prop} {F : (HVal → Prop) → Prop} (h : c → Det F) : Det fun K => c ∧ F K := fun K ⟨hc, hk⟩ => let ⟨v, h1, h2⟩ := h hc K hk; ⟨v, h1, fun K' h' => ⟨hc, h2 K' h'⟩⟩

theorem det_bin (P : Program) (op : BinOp) (t : TypeId) (x y : HVal) : Det (stepBin P op t x y) := by
  intro K hk
  unfold stepBin at hk ⊢
  split at hk
  · obtain ⟨hd, hk⟩ := hk
    split at hk
    · exact ⟨_, hk, fun K' h => ⟨hd, h⟩⟩
    · exact ⟨_, hk, fun K' h => ⟨hd, h⟩⟩
    · exact hk.elim
  · split at hk
    · exact ⟨_, hk.2.2, fun K' h => ⟨hk.1, hk.2.1, h⟩⟩
    · exact ⟨_, hk.2.2, fun K' h => ⟨hk.1, hk.2.1, h⟩⟩
    · exact ⟨_, hk.2, fun K' h => ⟨hk.1, h⟩⟩
    · exact ⟨_, hk.2, fun K' h => ⟨hk.1, h⟩⟩
    · split at hk
      · rename_i v hv; exact ⟨v, hk, fun K' h => by first | exact h | (simp only [hv]; exact h)⟩
      · exact hk.elim
  · split at hk
    · exact ⟨_, hk.2, fun K' h => ⟨hk.1, h⟩⟩
    · exact ⟨_, hk, fun K' h => h⟩
    · exact ⟨_, hk, fun K' h => h⟩
    · split at hk
      · rename_i v hv; exact ⟨_, hk, fun K' h => by first | exact h | (simp only [hv]; exact h)⟩
      · exact hk.elim
  · obtain ⟨hd, hk⟩ := hk
    split at hk
    · rename_i v hv; exact ⟨_, hk, fun K' h => ⟨hd, by first | exact h | (simp only [hv]; exact h)⟩⟩
    · rename_i v hv; exact ⟨_, hk, fun K' h => ⟨hd, by first | exact h | (simp only [hv]; exact h)⟩⟩
    · exact hk.elim
  · split at hk
    · rename_i v hv; exact ⟨v, hk, fun K' h => by first | exact h | (simp only [hv]; exact h)⟩
    · exact hk.elim

theorem stepBin_N {P : Program} {op : BinOp} {t : TypeId} {x y : HVal} {K : HVal → Prop} (h : stepBin P op t x y K) : stepBinN P op t x y K := by
  unfold stepBinN
  split
  · simp [stepBin, binH] at h
  · simp [stepBin, binH] at h
  · simp [stepBin, binH] at h
  · exact h

theorem stepBin_C {P : Program} {op : BinOp} {t : TypeId} {c : Bool} {x y : HVal} {K : HVal → Prop} (h : stepBin P op t x y K) : stepBinC P op t c x y K := by
  unfold stepBinC
  split
  · simp [stepBin, binH] at h
  · simp [stepBin, binH] at h
  · exact stepBin_N h

theorem det_un (op : UnOp) (x : HVal) : Det (stepUn op x) := by
  intro K hk
  unfold stepUn at hk ⊢
  split at hk
  · exact ⟨_, hk, fun K' h => h⟩
  · exact ⟨_, hk, fun K' h => h⟩
  · exact hk.elim

theorem det_conv (P : Program) (s d : TypeId) (x : HVal) : Det (stepConv P s d x) := by
  intro K hk
  unfold stepConv at hk ⊢
  split at hk
  · rename_i hd; exact ⟨_, hk.2, fun K' h => by first | exact ⟨hk.1, h⟩ | (simp only [hd]; exact ⟨hk.1, h⟩)⟩
  · rename_i hd
    split at hk
    · rename_i h1
      obtain ⟨h2, hk⟩ := hk
      split at hk
      · rename_i h3
        exact ⟨_, hk, fun K' h => by exact ⟨h2, h⟩⟩
      · exact hk.elim
    · exact hk.elim
  · exact hk.elim

theorem det_fa (d : Option TyD) (f : Nat) (x : HVal) : Det (stepFA d f x) := by
  intro K hk
  unfold stepFA at hk ⊢
  split at hk
  · split at hk
    · rename_i hf
      obtain ⟨h1, hk⟩ := hk
      split at hk
      · exact ⟨_, hk, fun K' h => by first | exact ⟨h1, h⟩ | (simp only [hf]; exact ⟨h1, h⟩)⟩
      · exact ⟨_, hk, fun K' h => by first | exact ⟨h1, h⟩ | (simp only [hf]; exact ⟨h1, h⟩)⟩
      · exact hk.elim
    · exact hk.elim
  · exact hk.elim

theorem det_ia (re : Option TyR) (x i : HVal) : Det (stepIA re x i) := by
  intro K hk
  unfold stepIA at hk ⊢
  split at hk
  · split at hk
    · exact ⟨_, hk.2.2.2, fun K' h => ⟨hk.1, hk.2.1, hk.2.2.1, h⟩⟩
    · exact ⟨_, hk.2.2.2, fun K' h => ⟨hk.1, hk.2.1, hk.2.2.1, h⟩⟩
    · exact hk.elim
  · exact hk.elim

theorem det_ix (d : Option TyD) (x i : HVal) : Det (stepIx d x i) := by
  intro K hk
  unfold stepIx at hk ⊢
  split at hk
  · obtain ⟨h1, hk⟩ := hk
    split at hk
    · rename_i c hc; exact ⟨_, hk, fun K' h => by first | exact ⟨h1, h⟩ | (simp only [hc]; exact ⟨h1, h⟩)⟩
    · exact hk.elim
  · exact hk.elim

theorem det_ld (r : Option TyR) (sz i off : Nat) (es : List (List HVal)) (h : Heap) : Det (stepLd r (.ip sz es i off) h) := by
  intro K hk
  unfold stepLd at hk ⊢
  split at hk
  · simp only at hk ⊢
    split at hk
    · rename_i he
      split at hk
      · rename_i x hx; exact ⟨x, hk, fun K' h => by first | exact h | (simp only [he, hx]; exact h)⟩
      · exact hk.elim
    · exact hk.elim
  · exact hk.elim

theorem ld_heap (r : Option TyR) (sz i off : Nat) (es : List (List HVal)) (h h' : Heap) (K : HVal → Prop) : stepLd r (.ip sz es i off) h K = stepLd r (.ip sz es i off) h' K := by
  unfold stepLd; rfl

theorem stepSlice_D {P : Program} {t : TypeId} {x : HVal} {lo hi : Option HVal} {K : HVal → Prop} (h : stepSlice P t x lo hi K) : stepSliceD P t x lo hi K := by
  unfold stepSliceD
  split
  · simp only [stepSlice] at h
    split at h
    · rename_i re hre
      obtain ⟨h1, h⟩ := h
      split at h
      · rename_i l m hl hm
        obtain rfl : _ = m := Option.some.inj hm
        obtain ⟨a, b, c, d⟩ := h
        try rw [hre]
        simp only [hl]
        exact ⟨h1, a, b.1, fun _ => by simpa using d, fun q => absurd b.2 (by omega)⟩
      · exact h.elim
    · exact h.elim
  · exact h
theorem det_slice (P : Program) (t : TypeId) (x : HVal) (lo hi : Option HVal) : Det (stepSlice P t x lo hi) := by
  intro K hk
  unfold stepSlice at hk ⊢
  split at hk
  · obtain ⟨h1, hk⟩ := hk
    split at hk
    · rename_i e1 e2; exact ⟨_, hk.2.2.2, fun K' h => by first | exact ⟨h1, hk.1, hk.2.1, hk.2.2.1, h⟩ | (simp only [e1, e2]; exact ⟨h1, hk.1, hk.2.1, hk.2.2.1, h⟩)⟩
    · exact hk.elim
  · split at hk
    · rename_i e0
      obtain ⟨h1, hk⟩ := hk
      split at hk
      · rename_i e1 e2; exact ⟨_, hk.2.2.2, fun K' h => by first | exact ⟨h1, hk.1, hk.2.1, hk.2.2.1, h⟩ | (simp only [e0, e1, e2]; exact ⟨h1, hk.1, hk.2.1, hk.2.2.1, h⟩)⟩
      · exact hk.elim
    · exact hk.elim
  · split at hk
    · rename_i e0
      obtain ⟨h1, hk⟩ := hk
      split at hk
      · rename_i e1 e2; exact ⟨_, hk.2.2.2, fun K' h => by first | exact ⟨h1, hk.1, hk.2.1, hk.2.2.1, h⟩ | (simp only [e0, e1, e2]; exact ⟨h1, hk.1, hk.2.1, hk.2.2.1, h⟩)⟩
      · exact hk.elim
    · exact hk.elim
  · exact hk.elim

theorem det_slice3 (P : Program) (t : TypeId) (x : HVal) (lo : Option HVal) (hi mx : HVal) : Det (stepSlice3 P t x lo hi mx) := by
  intro K hk
  unfold stepSlice3 at hk ⊢
  split at hk
  · split at hk
    · rename_i e0
      obtain ⟨h1, hk⟩ := hk
      split at hk
      · rename_i e1 e2 e3
        obtain ⟨a, b, c, d, hk⟩ := hk
        exact ⟨_, hk, fun K' h => by exact ⟨h1, a, b, c, d, h⟩⟩
      · exact hk.elim
    · exact hk.elim
  · exact hk.elim

theorem det_build (P : Program) (r : Option TyR) (ps : List (Nat × HVal)) : Det (stepBuild P r ps) := by
  intro K hk
  unfold stepBuild at hk ⊢
  split at hk
  · exact ⟨_, hk.2.2.2, fun K' h => ⟨hk.1, hk.2.1, hk.2.2.1, h⟩⟩
  · exact hk.elim

theorem det_bs (re : Option TyR) (len : Nat) (ps : List (Nat × HVal)) : Det fun K => stepBS re len ps fun sz es => K (.sl sz es true) := by
  intro K hk
  unfold stepBS at hk
  split at hk
  · exact ⟨_, hk.2.2.2.2.2, fun K' h => by unfold stepBS; exact ⟨hk.1, hk.2.1, hk.2.2.1, hk.2.2.2.1, hk.2.2.2.2.1, h⟩⟩
  · exact hk.elim

/-- 'len', where nothing is asked of the length. -/
def stepLenS (P : Program) (t : Option TypeId) (x : HVal) (K : HVal → Prop) : Prop :=
  match t with
  | some t => match dOf P t, x with
    | some (.slice _), .sl _ es _ => K (.int .i64 es.length)
    | some (.slice _), .os _ _ _ n => K (.int .i64 n)
    | some (.slice _), .nilsl => K (.int .i64 0)
    | some .str, .str s => K (.int .i64 s.length)
    | _, _ => False
  | none => False

/-- A call of a function that hands back one value and leaves the named rows. -/
def CallS (P : Program) (g : FuncId) (args : List HVal) (K : HVal → Prop) : Prop := ∃ r, Fn0 P g args r ∧ K r
/-- One operation whose outcome does not hang on the named rows. -/
def stepS (P : Program) (o : Oper) (ρ : Operand → HVal) (K : HVal → Prop) : Prop :=
  match o.op with
  | .move x => K (ρ x)
  | .assign x => K (ρ x)
  | .pick c a b => match ρ c with
    | .bool t => (t = true → K (ρ a)) ∧ (t = false → K (ρ b))
    | _ => False
  | .binOp op t x y _ => stepBin P op t (ρ x) (ρ y) K
  | .unOp op _ x => stepUn op (ρ x) K
  | .convert s d x => stepConv P s d (ρ x) K
  | .fieldAddr t x f => stepFA (dOf P t) f (ρ x) K
  | .indexAddr t x i => stepIA (eszOf P t) (ρ x) (ρ i) K
  | .index t x i => stepIx (dOf P t) (ρ x) (ρ i) K
  | .load t a => match ρ a with
    | .ip sz es i off => stepLd (tyR P t) (.ip sz es i off) (fun _ => none) K
    | _ => False
  | .slice t x lo hi none => stepSlice P t (ρ x) (lo.map ρ) (hi.map ρ) K
  | .extract t i => match ρ t with
    | .tup cs => match cs[i]? with | some x => K x | none => False
    | _ => False
  | .nilCheck x => match ρ x with
    | .op n sz i k => K (.op n sz i k)
    | .ip sz es i k => K (.ip sz es i k)
    | _ => False
  | .makeFunc fn fs cs => K (.fn fn (fs.toList.map ρ) (cs.toList.map ρ))
  | .build t ps => stepBuild P (tyR P t) (ps.toList.map fun p => (p.1, ρ p.2)) K
  | .call { callee := .value f, args := as, argTypes := _ } => match ρ f with
    | .fn (.func g) first cap => CallS P g (first ++ as.toList.map ρ ++ cap) K
    | _ => False
  | .call { callee := .builtin .len, args := as, argTypes := ats } => match as.toList with
    | [x] => stepLenS P ats[0]? (ρ x) K
    | _ => False
  | .call { callee := .builtin .max, args := as, argTypes := _ } => match as.toList with
    | [x, y] => match ρ x, ρ y with
      | .int k a, .int _ b => (match ρ y with | .int k' _ => k' = k | _ => False) ∧ K (.int k (max a b))
      | _, _ => False
    | _ => False
  | .slice t x lo (some hi) (some mx) => stepSlice3 P t (ρ x) (lo.map ρ) (ρ hi) (ρ mx) K
  | _ => False

theorem stat_of {P : Program} {o : Oper} {ρ : Operand → HVal} {F : (HVal → Prop) → Prop} {K : HVal → Prop} (hd : Det F) (hk : F K) (hs : ∀ h K', F (fun v => K' v h) → step P o ρ h K') : ∃ v, StatOp P o ρ v ∧ K v := by
  obtain ⟨v, h1, h2⟩ := hd K hk
  exact ⟨v, fun h => step_sound (hs h _ (h2 (fun v' => v' = v ∧ h = h) ⟨rfl, rfl⟩)), h1⟩

theorem stepS_sound {P : Program} {o : Oper} {ρ : Operand → HVal} {K : HVal → Prop} (hs : stepS P o ρ K) : ∃ v, StatOp P o ρ v ∧ K v := by
  unfold stepS at hs
  split at hs
  case h_1 x ho => exact stat_of (det_const _) hs fun h K' f => by unfold step; rw [ho]; exact f
  case h_2 x ho => exact stat_of (det_const _) hs fun h K' f => by unfold step; rw [ho]; exact f
  case h_3 c a b ho =>
    split at hs
    · rename_i t ht
      refine ⟨if t then ρ a else ρ b, fun h => step_sound ?_, ?_⟩
      · unfold step; rw [ho]; simp only [ht]
        cases t <;> simp
      · cases t
        · exact hs.2 rfl
        · exact hs.1 rfl
    · exact hs.elim
  case h_4 op t x y ty ho => exact stat_of (det_bin P op t _ _) hs fun h K' f => by unfold step; rw [ho]; exact stepBin_C f
  case h_5 op t x ho => exact stat_of (det_un op _) hs fun h K' f => by unfold step; rw [ho]; exact f
  case h_6 s d x ho => exact stat_of (det_conv P s d _) hs fun h K' f => by unfold step; rw [ho]; exact f
  case h_7 t x f ho => exact stat_of (det_fa _ f _) hs fun h K' f => by unfold step; rw [ho]; exact f
  case h_8 t x i ho => exact stat_of (det_ia _ _ _) hs fun h K' f => by unfold step; rw [ho]; exact f
  case h_9 t x i ho => exact stat_of (det_ix _ _ _) hs fun h K' f => by unfold step; rw [ho]; exact f
  case h_10 t a ho =>
    split at hs
    · rename_i sz es i off ha
      refine stat_of (det_ld _ sz i off es _) hs fun h K' f => ?_
      unfold step; rw [ho]; simp only [ha]; rw [ld_heap _ _ _ _ _ h (fun _ => none)]; exact f
    · exact hs.elim
  case h_11 t x lo hi ho => exact stat_of (det_slice P t _ _ _) hs fun h K' f => by unfold step; rw [ho]; exact stepSlice_D f
  case h_12 t i ho =>
    split at hs
    · rename_i cs ht
      split at hs
      · rename_i x hx
        exact stat_of (det_const _) hs fun h K' f => by unfold step; rw [ho]; simp only [ht, hx]; exact f
      · exact hs.elim
    · exact hs.elim
  case h_13 x ho =>
    split at hs
    · rename_i n sz i k hx; exact stat_of (det_const _) hs fun h K' f => by unfold step; rw [ho]; simp only [hx]; exact f
    · rename_i sz es i k hx; exact stat_of (det_const _) hs fun h K' f => by unfold step; rw [ho]; simp only [hx]; exact f
    · exact hs.elim
  case h_14 fn fs cs ho => exact stat_of (det_const _) hs fun h K' f => by unfold step; rw [ho]; exact f
  case h_15 t ps ho => exact stat_of (det_build P _ _) hs fun h K' f => by unfold step; rw [ho]; exact f
  case h_16 f as ats ho =>
    split at hs
    · rename_i g first cap hf
      obtain ⟨r, hr, hk⟩ := hs
      refine ⟨r, fun h => step_sound ?_, hk⟩
      unfold step; rw [ho]; simp only [stepCall, hf]
      exact hr h
    · exact hs.elim
  case h_17 as ats ho =>
    split at hs
    · rename_i x hax
      unfold stepLenS at hs
      split at hs
      · rename_i t hat
        split at hs
        all_goals first
          | exact hs.elim
          | (rename_i e1 e2; refine stat_of (det_const _) hs fun h K' f => ?_; unfold step; rw [ho]; simp only [stepCall, hax, stepLen, hat, e1, e2]; first | exact fun _ => f | exact f)
      · exact hs.elim
    · exact hs.elim
  case h_18 as ats ho =>
    split at hs
    · rename_i x y hax
      split at hs
      · rename_i k a k' b hx hy
        refine ⟨_, fun h => step_sound ?_, hs.2⟩
        unfold step; rw [ho]; simp only [stepCall, hax, hx, hy]
        have := hs.1; simp only [hy] at this; simp [this]
      · exact hs.elim
    · exact hs.elim
  case h_19 t x lo hi mx ho => exact stat_of (det_slice3 P t _ _ _ _) hs fun h K' f => by unfold step; rw [ho]; exact f
  case h_20 => exact hs.elim

def stepSI (P : Program) (ib : List Nat) (o : Oper) (ρ : Operand → HVal) (K : HVal → Prop) : Prop :=
  match o.dst with
  | some d => if ib.contains d then (match o.op with
      | .box _ x => stepBoxI (ρ x) K
      | .buildSlice t len ps => stepBS (eszOf P t) len (ps.toList.map fun p => (p.1, ρ p.2)) fun sz es => K (.sl sz es true)
      | _ => stepS P o ρ K) else stepS P o ρ K
  | none => stepS P o ρ K

theorem stat_ofI {P : Program} {ib : List Nat} {o : Oper} {ρ : Operand → HVal} {F : (HVal → Prop) → Prop} {K : HVal → Prop} (hd : Det F) (hk : F K) (hs : ∀ h K', F (fun v => K' v h) → stepI P ib o ρ h K') : ∃ v, StatOp P o ρ v ∧ K v := by
  obtain ⟨v, h1, h2⟩ := hd K hk
  exact ⟨v, fun h => stepI_sound (hs h _ (h2 (fun v' => v' = v ∧ h = h) ⟨rfl, rfl⟩)), h1⟩

theorem stepSI_sound {P : Program} {ib : List Nat} {o : Oper} {ρ : Operand → HVal} {K : HVal → Prop} (hs : stepSI P ib o ρ K) : ∃ v, StatOp P o ρ v ∧ K v := by
  unfold stepSI at hs
  split at hs
  · rename_i d hd
    split at hs
    · rename_i hib
      split at hs
      · rename_i t x ho
        exact stat_ofI (ib := ib) (det_and fun _ => det_const _) hs fun h K' f => by unfold stepI; rw [hd]; simp only [hib, if_true, ho]; exact f
      · rename_i t len ps ho
        exact stat_ofI (ib := ib) (det_bs _ _ _) hs fun h K' f => by unfold stepI; rw [hd]; simp only [hib, if_true, ho]; exact f
      · exact stepS_sound hs
    · exact stepS_sound hs
  · exact stepS_sound hs

def stepR (P : Program) (o : Oper) (ρ : Operand → HVal) (h : Heap) (K : Option Nat → HVal → Prop) : Prop :=
  match o.op with
  | .load t a => match ρ a with
    | .op n sz i off => stepLd (tyR P t) (.op n sz i off) h fun v => K (some n) v
    | .ip sz es i off => stepLd (tyR P t) (.ip sz es i off) h fun v => K none v
    | _ => False
  | _ => False
theorem det_ldo (r : Option TyR) (n sz i off : Nat) (h : Heap) : Det (stepLd r (.op n sz i off) h) := by
  intro K hk
  unfold stepLd at hk ⊢
  split at hk
  · simp only at hk
    split at hk
    · rename_i sz' es e0
      obtain ⟨h1, hk⟩ := hk
      split at hk
      · rename_i e e1
        split at hk
        · rename_i x e2
          exact ⟨x, hk, fun K' q => by simp only [e0, e1, e2]; exact ⟨h1, q⟩⟩
        · exact hk.elim
      · exact hk.elim
    · exact hk.elim
  · exact hk.elim
theorem ldo_heap (r : Option TyR) (n sz i off : Nat) (h h' : Heap) (e : h' n = h n) (K : HVal → Prop) : stepLd r (.op n sz i off) h' K = stepLd r (.op n sz i off) h K := by
  unfold stepLd; simp only [e]
theorem stepR_sound {P : Program} {o : Oper} {ρ : Operand → HVal} {h : Heap} {K : Option Nat → HVal → Prop} (hs : stepR P o ρ h K) : (∃ n v, ReadOp P o ρ h n v ∧ K (some n) v) ∨ ∃ v, StatOp P o ρ v ∧ K none v := by
  unfold stepR at hs
  split at hs
  · rename_i t a ho
    split at hs
    · rename_i n sz i off ha
      obtain ⟨v, h1, h2⟩ := det_ldo _ n sz i off h _ hs
      refine .inl ⟨n, v, fun h' e => step_sound ?_, h1⟩
      unfold step; rw [ho]; simp only [ha]
      rw [ldo_heap _ _ _ _ _ h h' e]
      have := h2 (fun v' => v' = v ∧ h' = h') ⟨rfl, rfl⟩
      simpa using this
    · rename_i sz es i off ha
      obtain ⟨v, h1, h2⟩ := det_ld _ sz i off es h _ hs
      refine .inr ⟨v, fun h' => step_sound ?_, h1⟩
      unfold step; rw [ho]; simp only [ha]
      rw [ld_heap _ _ _ _ _ h' h]
      have := h2 (fun v' => v' = v ∧ h' = h') ⟨rfl, rfl⟩
      simpa using this
    · exact hs.elim
  · exact hs.elim
def addP (cr : List (Nat × Nat)) (i : Nat) : Option Nat → List (Nat × Nat) → List (Nat × Nat)
  | some n, pr => if hasL cr i then (i, n) :: pr else pr
  | none, pr => pr
def protF (cr : List (Nat × Nat)) (i : Nat) : List (Nat × Nat) → Heap → Heap → Prop
  | [], _, _ => True
  | (x, n) :: pr, h, h' => (if hasP cr x i then h' n = h n else True) ∧ protF cr i pr h h'
theorem protF_L {cr : List (Nat × Nat)} {i : Nat} {h h' : Heap} : ∀ {pr : List (Nat × Nat)}, protF cr i pr h h' → protL cr i pr h h'
  | [], _ => fun p hp => by simp at hp
  | (x, n) :: pr, q => fun p hp hc => by
    simp only [protF] at q
    rcases List.mem_cons.1 hp with rfl | hp
    · have := q.1; rw [if_pos hc] at this; exact this
    · exact protF_L q.2 p hp hc
/-- One operation of a region in a given order. m: it touches named rows. -/
def stepO (P : Program) (ib : List Nat) (cr : List (Nat × Nat)) (i : Nat) (m : Bool) (o : Oper) (ρ : Operand → HVal) (pr : List (Nat × Nat)) (h : Heap) (K : List (Nat × Nat) → HVal → Heap → Prop) : Prop :=
  if m then (if isLd o then stepR P o ρ h (fun n v => K (addP cr i n pr) v h) else stepI P ib o ρ h (fun v h' => protF cr i pr h h' ∧ K pr v h'))
  else stepSI P ib o ρ (fun v => K pr v h)

/-- One operation of a walk. -/
def OpD (P : Program) (ib : List Nat) (ops : Array Oper) (ms : List Nat) (cr : List (Nat × Nat)) (i : Nat) (pr : List (Nat × Nat)) (τ : Tmps) (h : Heap) (C : List (Nat × Nat) → Tmps → Heap → Prop) : Prop :=
  match ops[i]? with
    | none => False
    | some o => match o.guard with
      | none => stepO P ib cr i (ms.contains i) o (hevM ops o τ) pr h (fun pr' v h' => C pr' (tput τ o.dst v) h')
      | some (g, b) => match (ops[g]?).bind (·.dst) with
        | some d => match tget τ d with
          | .bool b' => (b' = b → stepO P ib cr i (ms.contains i) o (hevM ops o ((d, .bool b) :: τ)) pr h (fun pr' v h' => C pr' (tput ((d, .bool b) :: τ) o.dst v) h')) ∧
              (b' = !b → C pr (tput ((d, .bool !b) :: τ) o.dst (.tup [])) h)
          | .tup [] => C pr (tput τ o.dst (.tup [])) h
          | _ => False
        | none => False
/-- The walk of a region by a plan. -/
def RegD (P : Program) (ib : List Nat) (ops : Array Oper) (ms : List Nat) (cr : List (Nat × Nat)) : Plan → List (Nat × Nat) → Tmps → Heap → (Tmps → Heap → Prop) → Prop
  | .nil, _, τ, h, K => K τ h
  | .op i l, pr, τ, h, K => OpD P ib ops ms cr i pr τ h fun pr τ h => RegD P ib ops ms cr l pr τ h K
  | .alt i l j q, pr, τ, h, K => (OpD P ib ops ms cr i pr τ h fun pr τ h => RegD P ib ops ms cr l pr τ h K) ∧ OpD P ib ops ms cr j pr τ h fun pr τ h => RegD P ib ops ms cr q pr τ h K

theorem OpD.sound {P : Program} {ib : List Nat} {ops : Array Oper} {ms : List Nat} {cr : List (Nat × Nat)} {i : Nat} {C C' : List (Nat × Nat) → Tmps → Heap → Prop}
    (hC : ∀ (pr pr' : List (Nat × Nat)) (τ τ' : Tmps) (h : Heap), (∀ p ∈ pr', p ∈ pr ∨ ∀ j, hasP cr p.1 j = false) → TEq τ τ' → C pr τ h → C' pr' τ' h) (pr : List (Nat × Nat)) (τ : Tmps) (h : Heap) (r : OpD P ib ops ms cr i pr τ h C) : OpL P ops ms i cr pr τ h C' := by
    have ids : ∀ pr : List (Nat × Nat), ∀ p ∈ pr, p ∈ pr ∨ ∀ j, hasP cr p.1 j = false := fun _ _ h => .inl h
    unfold OpD at r
    unfold OpL
    cases ho : ops[i]? with
    | none => simp [ho] at r
    | some o =>
      simp only [ho] at r ⊢
      have go : ∀ σ : Tmps, (∀ k, tget σ k = tget τ k) → want ops τ o = some true → stepO P ib cr i (ms.contains i) o (hevM ops o σ) pr h (fun pr' v h' => C pr' (tput σ o.dst v) h') → (match want ops τ o with
            | none => False
            | some true => if ms.contains i then (if isLd o then (∃ n v, ReadOp P o (hevM ops o τ) h n v ∧ C' ((i, n) :: pr) (tput τ o.dst v) h) ∨ ∃ v, StatOp P o (hevM ops o τ) v ∧ C' pr (tput τ o.dst v) h
                  else OpW P o (hevM ops o τ) h fun v h' => protL cr i pr h h' ∧ C' pr (tput τ o.dst v) h')
                else ∃ v, StatOp P o (hevM ops o τ) v ∧ C' pr (tput τ o.dst v) h
            | some false => C' pr (tput τ o.dst (.tup [])) h) := by
        intro σ hσ hw r
        rw [hw]
        simp only
        rw [hevM_congr (ops := ops) (o := o) (τ := σ) (τ' := τ) fun t _ => hσ t] at r
        unfold stepO at r
        split at r
        · rename_i hm; rw [if_pos hm]
          split at r
          · rename_i hl; rw [if_pos hl]
            rcases stepR_sound r with ⟨n, v, h1, h2⟩ | ⟨v, h1, h2⟩
            · refine .inl ⟨n, v, h1, hC _ _ _ _ h ?_ (TEq.put hσ _ _) h2⟩
              intro p hp
              simp only [addP]
              split
              · exact .inl hp
              · rename_i hn
                rcases List.mem_cons.1 hp with rfl | hp
                · exact .inr fun j => hasL_not (by simpa using hn)
                · exact .inl hp
            · exact .inr ⟨v, h1, hC _ _ _ _ h (ids _) (TEq.put hσ _ _) h2⟩
          · rename_i hl; rw [if_neg hl]
            exact (stepI_sound r).mono fun v h' x => ⟨protF_L x.1, hC _ _ _ _ h' (ids _) (TEq.put hσ _ _) x.2⟩
        · rename_i hm; rw [if_neg hm]
          obtain ⟨v, h1, h2⟩ := stepSI_sound r
          exact ⟨v, h1, hC _ _ _ _ h (ids _) (TEq.put hσ _ _) h2⟩
      have skip : ∀ σ : Tmps, (∀ k, tget σ k = tget τ k) → want ops τ o = some false → C pr (tput σ o.dst (.tup [])) h → (match want ops τ o with
            | none => False
            | some true => if ms.contains i then (if isLd o then (∃ n v, ReadOp P o (hevM ops o τ) h n v ∧ C' ((i, n) :: pr) (tput τ o.dst v) h) ∨ ∃ v, StatOp P o (hevM ops o τ) v ∧ C' pr (tput τ o.dst v) h
                  else OpW P o (hevM ops o τ) h fun v h' => protL cr i pr h h' ∧ C' pr (tput τ o.dst v) h')
                else ∃ v, StatOp P o (hevM ops o τ) v ∧ C' pr (tput τ o.dst v) h
            | some false => C' pr (tput τ o.dst (.tup [])) h) := by
        intro σ hσ hw r
        rw [hw]
        exact hC _ _ _ _ h (ids _) (TEq.put hσ _ _) r
      cases hg : o.guard with
      | none => simp only [hg] at r; exact go τ (fun _ => rfl) (by simp [want, hg]) r
      | some gb =>
        obtain ⟨g, b⟩ := gb
        simp only [hg] at r
        split at r
        · rename_i d hd
          split at r
          · rename_i b' hb'
            by_cases e : b' = b
            · subst e
              exact go _ (tget_again hb') (by simp [want, hg, hd, hb']) (r.1 rfl)
            · have e' : b' = !b := by cases b' <;> cases b <;> simp_all
              subst e'
              exact skip _ (tget_again hb') (by simp only [want, hg, hd, hb']; cases b <;> rfl) (r.2 rfl)
          · rename_i hb'; exact skip τ (fun _ => rfl) (by simp [want, hg, hd, hb']) r
          · exact r.elim
        · exact r.elim

theorem RegD.sound {P : Program} {ib : List Nat} {ops : Array Oper} {ms : List Nat} {cr : List (Nat × Nat)} {K : Tmps → Heap → Prop} (hK : ∀ τ τ' h, TEq τ τ' → K τ h → K τ' h) : ∀ (l : Plan) (pr : List (Nat × Nat)) (τ : Tmps) (h : Heap), RegD P ib ops ms cr l pr τ h K → RegL P ops ms cr l pr τ h K
  | .nil, _, _, _, r => r
  | .op i l, pr, τ, h, r => OpD.sound (fun pr pr' τ τ' h hs e r => RegL.congr hK l _ _ _ _ h hs e (RegD.sound hK l pr τ h r)) pr τ h r
  | .alt i l j q, pr, τ, h, r => ⟨OpD.sound (fun pr pr' τ τ' h hs e r => RegL.congr hK l _ _ _ _ h hs e (RegD.sound hK l pr τ h r)) pr τ h r.1, OpD.sound (fun pr pr' τ τ' h hs e r => RegL.congr hK q _ _ _ _ h hs e (RegD.sound hK q pr τ h r)) pr τ h r.2⟩

/-- How a region that draws is walked: the operations that touch named rows, and the order. -/
abbrev Marks := Nat → List Nat × Plan × List (Nat × Nat)

/-- Behind a block. -/
def blockK (id : Nat) (K : Tmps → Heap → Prop) (Q : Exit → Tmps → Heap → Prop) : Exit → Tmps → Heap → Prop
  | .exit i, τ, h => if i = id then K τ h else Q (.exit i) τ h
  | e, τ, h => Q e τ h

def semP : Plan → Bool
  | .nil => true
  | _ => false
@[inline] def onlyN (K : Tmps → Heap → Prop) : Exit → Tmps → Heap → Prop
  | .normal, τ, h => K τ h
  | _, _, _ => False
def drawS (b : Bool) (A B : Prop) : Prop := match b with | true => A | false => B

/-- The walk of a function's code; loops are left. K: what is asked at its end; Q: at another exit. -/
def hwp (P : Program) (N : Nat) (keep ib : List Nat) (mk : Marks) : Code → (Tmps → Heap → Prop) → (Exit → Tmps → Heap → Prop) → Tmps → Heap → Prop
  | .skip, K, Q, τ, h => K τ h
  | .region id ops false, K, Q, τ, h => RegW P ib ops ops.toList τ h fun τ' h' => K (Hl.prune keep τ') h'
  | .region id ops true, K, Q, τ, h => drawS (semP (mk id).2.1) (HWp P N (.region id ops true) (onlyN K) τ h) (RegD P ib ops (mk id).1 (mk id).2.2 (mk id).2.1 [] τ h fun τ' h' => K (Hl.prune keep τ') h')
  | .seq a b, K, Q, τ, h => hwp P N keep ib mk a (fun τ h => hwp P N keep ib mk b K Q τ h) Q τ h
  | .cond c a b, K, Q, τ, h => match hev τ c with
    | .bool t => (t = true → hwp P N keep ib mk a K Q τ h) ∧ (t = false → hwp P N keep ib mk b K Q τ h)
    | _ => False
  | .block id c, K, Q, τ, h => hwp P N keep ib mk c K (blockK id K Q) τ h
  | .loop c, K, Q, τ, h => HWp P N (.loop c) (thenQ K Q) τ h
  | .exit id, K, Q, τ, h => Q (.exit id) τ h
  | .ret, K, Q, τ, h => Q .ret τ h
  | _, _, _, _, _ => False

/-- What is asked of a code's text. -/
def codeOK (N : Nat) (mk : Marks) : Code → Bool
  | .region _ ops false => dstOps N ops
  | .region id ops true => dstOps N ops && (semP (mk id).2.1 || ordB ops (mk id).1 (mk id).2.1 (mk id).2.2)
  | .seq a b => codeOK N mk a && codeOK N mk b
  | .cond _ a b => codeOK N mk a && codeOK N mk b
  | .block _ c => codeOK N mk c
  | .loop c => codeOK N mk c
  | _ => true

theorem hwp_sound {P : Program} {N : Nat} {keep ib : List Nat} {mk : Marks} (hmix : P.follows .mixedOrders = true) : ∀ (c : Code) (K : Tmps → Heap → Prop) (Q : Exit → Tmps → Heap → Prop) (τ : Tmps) (h : Heap), codeOK N mk c = true → hwp P N keep ib mk c K Q τ h → HWp P N c (thenQ K Q) τ h
  | .skip, K, Q, τ, h, _, hw => .skip hw
  | .region id ops false, K, Q, τ, h, hc, hw => .region hc keep hw
  | .region id ops true, K, Q, τ, h, hc, hw => by
    simp only [codeOK, Bool.and_eq_true] at hc
    cases hs : semP (mk id).2.1 with
    | true =>
      unfold hwp drawS at hw
      rw [hs] at hw
      exact HWp.mono (fun e τ h q => by cases e <;> first | exact q | exact q.elim) hw
    | false =>
    unfold hwp drawS at hw
    rw [hs] at hw
    rw [hs, Bool.false_or] at hc
    exact .region_draw hmix hc.1 hc.2 keep (RegD.sound (fun τ τ' h e q => by
      have : Hl.prune keep τ = Hl.prune keep τ' := by unfold Hl.prune; exact List.map_congr_left fun k _ => by rw [e k]
      rwa [← this]) _ _ _ _ hw)
  | .seq a b, K, Q, τ, h, hc, hw => by
    simp only [codeOK, Bool.and_eq_true] at hc
    refine .seq ((hwp_sound hmix a _ _ τ h hc.1 hw).mono ?_)
    intro e τ' h' q
    cases e <;> simp only [thenQ] at q ⊢ <;> first | exact q | exact hwp_sound hmix b _ _ _ _ hc.2 q
  | .cond c a b, K, Q, τ, h, hc, hw => by
    simp only [codeOK, Bool.and_eq_true] at hc
    unfold hwp at hw
    split at hw
    · rename_i t ht
      exact .cond ht (fun e => hwp_sound hmix a _ _ _ _ hc.1 (hw.1 e)) (fun e => hwp_sound hmix b _ _ _ _ hc.2 (hw.2 e))
    · exact hw.elim
  | .block id c, K, Q, τ, h, hc, hw => .block ((hwp_sound hmix c _ _ τ h hc hw).mono fun e τ' h' q => by
      cases e <;> simp only [thenQ, blockK, blockQ] at q ⊢ <;> first | exact q | (split at q <;> rename_i hi <;> simp_all [thenQ, blockQ]))
  | .loop c, K, Q, τ, h, hc, hw => hw
  | .exit id, K, Q, τ, h, hc, hw => .exit hw
  | .ret, K, Q, τ, h, hc, hw => .ret hw
  | .rangeFunc _ _ _ _, _, _, _, _, _, hw => hw.elim
  | .scope _, _, _, _, _, _, hw => hw.elim
  | .label _, _, _, _, _, _, hw => hw.elim
  | .goto _, _, _, _, _, _, hw => hw.elim
  | .refuse _, _, _, _, _, _, hw => hw.elim

/-- A function's contract by the walk of its body. -/
theorem fn_hwp {P : Program} {f : FuncId} {fn : Func} {c : Code} (N : Nat) (keep ib : List Nat) (mk : Marks) {args : List HVal} {h : Heap} {K : HVal → Heap → Prop} (hmix : P.follows .mixedOrders = true) (hf : P.funcs[f]? = some fn) (hb : fn.body = some c)
    (hck : (callable P f && decide (fn.ntmps = N) && codeOK N mk c) = true) (hl : args.length ≤ N) {K' : HVal → Heap → Prop}
    (hw : hwp P N keep ib mk c (postQ P fn.results K' .normal) (postQ P fn.results K') (argsT 0 args) h) (hk : ∀ r h', K' r h' → ∃ g : Heap, g.le h' ∧ K r g) : HFn P f args h K := by
  simp only [Bool.and_eq_true, decide_eq_true_eq] at hck
  refine fn_of_wp hf hb hck.1.1 hck.1.2 hl ((hwp_sound hmix c _ _ _ _ hck.2 hw).mono ?_) hk
  intro e τ h q
  cases e <;> exact q

theorem fn0_hwp {P : Program} {f : FuncId} {fn : Func} {c : Code} (N : Nat) (keep ib : List Nat) (mk : Marks) {args : List HVal} {r : HVal} (hmix : P.follows .mixedOrders = true) (hf : P.funcs[f]? = some fn) (hb : fn.body = some c)
    (hck : (callable P f && decide (fn.ntmps = N) && codeOK N mk c) = true) (hl : args.length ≤ N)
    (hw : ∀ h, hwp P N keep ib mk c (postQ P fn.results (fun r' h' => r' = r ∧ h.le h') .normal) (postQ P fn.results fun r' h' => r' = r ∧ h.le h') (argsT 0 args) h) : Fn0 P f args r :=
  fun h => fn_hwp N keep ib mk hmix hf hb hck hl (hw h) fun _ _ hx => ⟨h, hx.2, hx.1, rfl⟩

theorem le_upd {h h' : Heap} {n : Nat} {o : HObj} (hn : h n = none) : h.le (upd h' n o) ↔ h.le h' := by
  constructor
  · intro hl m
    by_cases e : m = n
    · subst e; exact .inl hn
    · have := hl m; rwa [upd_ne _ _ _ _ e] at this
  · exact Heap.le_upd hn

theorem upd_none {h : Heap} {n m : Nat} {o : HObj} : upd h n o m = none ↔ m ≠ n ∧ h m = none := by
  simp only [upd]; split <;> simp_all
/-- Slots that hold what is said of them. -/
def SatL : Tmps → Tmps → Prop
  | [], _ => True
  | (k, v) :: r, τ => tget τ k = v ∧ SatL r τ

theorem SatL.get : ∀ {l τ : Tmps}, SatL l τ → ∀ k, tget l k = .any ∨ tget l k = tget τ k
  | [], τ, _, k => .inl rfl
  | (j, v) :: r, τ, h, k => by
    simp only [tget]
    by_cases e : j = k
    · subst e; right; rw [if_pos rfl]; exact h.1.symm
    · rw [if_neg e]; exact SatL.get h.2 k

theorem HWp.weaken {P : Program} {N : Nat} {c : Code} {Q : Exit → Tmps → Heap → Prop} {σ τ : Tmps} {g h : Heap} (hs : SatL σ τ) (hl : g.le h) (x : HWp P N c Q σ g) : HWp P N c Q τ h :=
  HWp.forget hl fun ds E w a R r => x ds E w a R ⟨r.size, r.defers, fun k => by
    rcases hs.get k with e | e
    · rw [e]; exact .any _
    · rw [e]; exact r.get k⟩

/-- A loop: for each x the slots S x and the named rows H x at the head of a round. -/
theorem HWp.loopF {P : Program} {N : Nat} {c : Code} {Q : Exit → Tmps → Heap → Prop} {τ : Tmps} {h : Heap} {α : Type} (S : α → Tmps) (H : α → Heap) (side : α → Prop) (μ : α → Nat) (x₀ : α)
    (h₀ : SatL (S x₀) τ ∧ (H x₀).le h ∧ side x₀)
    (round : ∀ x, side x → HWp P N c (thenQ (fun τ' h' => ∃ x', SatL (S x') τ' ∧ (H x').le h' ∧ side x' ∧ μ x' < μ x) Q) (S x) (H x)) : HWp P N (.loop c) Q τ h :=
  HWp.loop (fun x τ h => SatL (S x) τ ∧ (H x).le h ∧ side x) μ x₀ h₀ fun x τ h ⟨h1, h2, h3⟩ =>
    HWp.weaken h1 h2 ((round x h3).mono fun e τ h q => by
      cases e <;> simp only [thenQ] at q ⊢ <;> first | exact q | (obtain ⟨x', a, b, c, d⟩ := q; exact ⟨x', ⟨a, b, c⟩, d⟩))
end Go.Hl
