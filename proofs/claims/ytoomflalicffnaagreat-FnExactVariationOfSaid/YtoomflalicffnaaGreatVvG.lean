/-
  Contracts of functions and laws of the layer over the walk.
-/
import Derived.Test.YtoomflalicffnaaGreatVvF
import Derived.Test.YtoomflalicffnaaGreatVvD
namespace Go.Hl
open Go.Proofs
set_option linter.unusedVariables false
set_option linter.unusedSimpArgs false
theorem aIN {R : List Int → List Int → Prop} {sz sz' : Nat} (H : aUB R sz sz') {code : List aZ} {inp : Int} (hins : ∀ i c, code[i]? = some c → bE inp i c) {args args' : List (List Int)} (ha : eG R args args') : ∀ n k, k < n → k < code.length → R (l6 sz args code k) (l6 sz' args' code k)
 |0, k, h, _ => by omega
 |n + 1, k, hn, hk => by
  have ih := fun i hi => aIN H hins ha n i hi
  have e : code[k]? = some code[k] := List.getElem?_eq_getElem hk
  have hc := hins k _ e
  generalize code[k] = c at *
  by_cases h1 : c.fM = 1
  ·rw [aIB e h1, aIB e h1]; exact ha.get H.nil _
  by_cases h2 : c.fM = 2
  ·rw [aCC e h2, aCC e h2]; exact H.const _
  rw [aIC e hc h1 h2, aIC e hc h1 h2]
  unfold bE at hc
  have da := ih c.fA.toNat (by omega) (by omega)
  have db := ih c.fB.toNat (by omega) (by omega)
  unfold opW
  split
  ·exact H.add da db
  split
  ·exact H.sub da db
  split
  ·exact H.mul da db
  split
  ·exact H.scl _ da
  ·exact H.div da db
theorem aP1 {R : List Int → List Int → Prop} {sz sz' : Nat} (H : aUB R sz sz') {code : List aZ} {inp : Int} (hins : ∀ i c, code[i]? = some c → bE inp i c) {dirs dirs' : List (List Int)} (hd : eG R dirs dirs') {rg rg' : Nat → List Int} (hrg : ∀ k, k < code.length → R (rg k) (rg' k)) : ∀ n k, k < n → k < code.length → R (xO sz dirs rg code k) (xO sz' dirs' rg' code k)
 |0, k, h, _ => by omega
 |n + 1, k, hn, hk => by
  have ih := fun i hi => aP1 H hins hd hrg n i hi
  have e : code[k]? = some code[k] := List.getElem?_eq_getElem hk
  have hc := hins k _ e
  rw [xP e hc, xP e hc]
  generalize code[k] = c at *
  unfold bE at hc
  have hk' := hrg k hk
  unfold pL
  by_cases h1 : c.fM = 1
  ·rw [if_pos h1, if_pos h1]; exact hd.get H.nil _
  rw [if_neg h1, if_neg h1]
  by_cases h2 : c.fM = 2
  ·rw [if_pos h2, if_pos h2]; exact H.const _
  rw [if_neg h2, if_neg h2]
  have da := ih c.fA.toNat (by omega) (by omega)
  have db := ih c.fB.toNat (by omega) (by omega)
  have ra := hrg c.fA.toNat (by omega)
  have rb := hrg c.fB.toNat (by omega)
  split
  ·exact H.add da db
  split
  ·exact H.sub da db
  split
  ·exact H.add (H.mul da rb) (H.mul ra db)
  split
  ·exact H.scl _ da
  ·exact H.div (H.sub da (H.mul hk' db)) rb
def St (start : List Int) (sz : Nat) (X : List (List Int)) : Prop := eS sz start.length X ∧ ∀ i, i < start.length → (X.getD i []).getD 0 0 = start.getD i 0
structure VF (start : List Int) (V : Nat → List (List Int) → List (List Int)) : Prop where
 ser : ∀ sz X, 1 ≤ sz → St start sz X → eS sz start.length (V sz X)
 rel : ∀ m sz X X', 1 ≤ m → m ≤ sz → St start m X → St start sz X' → eG (pR m) X X' → ∀ i, pR m ((V m X).getD i []) ((V sz X').getD i [])
def kF (x : Int) (v : List Int) (sz : Nat) : List Int := x :: (List.range (sz - 1)).map fun q => v.getD q 0 * iQ ((q : Int) + 1) % 1000003
def pM (V : Nat → List (List Int) → List (List Int)) (start : List Int) (sz : Nat) (X : List (List Int)) : List (List Int) := (List.range start.length).map fun i => kF (start.getD i 0) ((V sz X).getD i []) sz
def fS (V : Nat → List (List Int) → List (List Int)) (start : List Int) : Nat → List (List Int)
 |0 => start.map fun n => [n]
 |k + 1 => (List.range start.length).map fun i => (fS V start k).getD i [] ++ [((V (k + 1) (fS V start k)).getD i []).getD k 0 * iQ ((k : Int) + 1) % 1000003]
def l8 (start : List Int) (sz : Nat) : List (List Int) := start.map fun n => cF n sz
def itR (V : Nat → List (List Int) → List (List Int)) (start : List Int) (sz : Nat) : Nat → List (List Int)
 |0 => l8 start sz
 |n + 1 => pM V start sz (itR V start sz n)
theorem pZ {n i : Nat} (hi : i < n) (f : Nat → List Int) : ((List.range n).map f).getD i [] = f i := by
 rw [List.getD_eq_getElem?_getD, List.getElem?_map, List.getElem?_range hi]; rfl
theorem nL (V : Nat → List (List Int) → List (List Int)) (start : List Int) {i : Nat} (hi : i < start.length) : ∀ k, (fS V start k).getD i [] = start.getD i 0 :: (List.range k).map fun q => ((V (q + 1) (fS V start q)).getD i []).getD q 0 * iQ ((q : Int) + 1) % 1000003
 |0 => by rw [fS, List.getD_eq_getElem?_getD, List.getElem?_map, bR hi]; rfl
 |k + 1 => by rw [fS, pZ hi, nL V start hi k, List.range_succ, List.map_append]; rfl
theorem gA (V : Nat → List (List Int) → List (List Int)) (start : List Int) : ∀ k, (fS V start k).length = start.length
 |0 => by simp [fS]
 |k + 1 => by simp [fS]
theorem zP (V : Nat → List (List Int) → List (List Int)) (start : List Int) (sz : Nat) : ∀ n, (itR V start sz n).length = start.length
 |0 => by simp [itR, l8]
 |n + 1 => by simp [itR, pM]
theorem aLF {l : List (List Int)} {s : List Int} (h : s ∈ l) : ∃ i, i < l.length ∧ l.getD i [] = s := by
 obtain ⟨i, hi, rfl⟩ := List.mem_iff_getElem.1 h
 exact ⟨i, hi, by rw [List.getD_eq_getElem?_getD, List.getElem?_eq_getElem hi]; rfl⟩
theorem aGK {x : Int} {l : List Int} (hx : iI x) (hl : ∀ y ∈ l, iI y) : dP (x :: l) := fun y hy => by
 rcases List.mem_cons.1 hy with rfl | hy
 ·exact hx
 ·exact hl y hy
theorem gE (V : Nat → List (List Int) → List (List Int)) {start : List Int} (hs : dP start) (k : Nat) : St start (k + 1) (fS V start k) := by
 refine ⟨⟨gA V start k, fun s h => ?_⟩, fun i hi => by rw [nL V start hi]; rfl⟩
 obtain ⟨i, hi, rfl⟩ := aLF h
 rw [gA] at hi
 rw [nL V start hi]
 refine ⟨by simp, aGK (hs.get i) fun y hy => ?_⟩
 obtain ⟨q, _, rfl⟩ := List.mem_map.1 hy
 exact j4 _
theorem aX5 (V : Nat → List (List Int) → List (List Int)) {start : List Int} (hs : dP start) {sz : Nat} (hsz : 1 ≤ sz) (X : List (List Int)) : St start sz (pM V start sz X) := by
 have hl : (pM V start sz X).length = start.length := by simp [pM]
 refine ⟨⟨hl, fun s h => ?_⟩, fun i hi => by rw [pM, pZ hi]; rfl⟩
 obtain ⟨i, hi, rfl⟩ := aLF h
 rw [hl] at hi
 rw [pM, pZ hi]
 refine ⟨by simp [kF]; omega, aGK (hs.get i) fun y hy => ?_⟩
 obtain ⟨q, _, rfl⟩ := List.mem_map.1 hy
 exact j4 _
theorem aIO {start : List Int} (hs : dP start) {sz : Nat} (hsz : 1 ≤ sz) : St start sz (l8 start sz) := by
 have hg : ∀ i, i < start.length → (l8 start sz).getD i [] = cF (start.getD i 0) sz := fun i hi => by
  rw [l8, List.getD_eq_getElem?_getD, List.getElem?_map, bR hi]; rfl
 refine ⟨⟨by simp [l8], fun s h => ?_⟩, fun i hi => by rw [hg i hi]; exact vX _ 0 hsz⟩
 obtain ⟨n, hn, rfl⟩ := List.mem_map.1 h
 exact dF (hs n hn)
theorem uG (V : Nat → List (List Int) → List (List Int)) {start : List Int} (hs : dP start) {sz : Nat} (hsz : 1 ≤ sz) : ∀ n, St start sz (itR V start sz n)
 |0 => aIO hs hsz
 |n + 1 => aX5 V hs hsz _
theorem St.len {start : List Int} {sz : Nat} {X : List (List Int)} (h : St start sz X) {i : Nat} (hi : i < start.length) : (X.getD i []).length = sz := (h.1.get hi).2.1
theorem zQ (x : Int) (n : Nat) (f : Nat → Int) {q : Nat} (hq : q < n) : sF (x :: (List.range n).map f) (q + 1) = f q := by
 rw [sF, List.getD_eq_getElem?_getD, List.getElem?_cons_succ, List.getElem?_map, List.getElem?_range hq]; rfl
theorem aP2 {V : Nat → List (List Int) → List (List Int)} {start : List Int} (hs : dP start) (H : VF start V) {sz : Nat} (hsz : 1 ≤ sz) : ∀ n k, k ≤ n → k < sz → eG (pR (k + 1)) (fS V start k) (itR V start sz n)
 |0, k, hk, hlt => by
  obtain rfl : k = 0 := by omega
  refine eG.of (by rw [gA, zP]) fun i hi => ?_
  rw [gA] at hi
  have h1 := gE V hs 0
  have h2 := uG V hs hsz 0
  refine .inr ⟨by rw [h1.len hi]; exact Nat.le_refl _, by rw [h2.len hi]; omega, fun q hq => ?_⟩
  obtain rfl : q = 0 := by omega
  exact (h1.2 i hi).trans (h2.2 i hi).symm
 |n + 1, k, hk, hlt => by
  refine eG.of (by rw [gA, zP]) fun i hi => ?_
  rw [gA] at hi
  have h1 := gE V hs k
  have h2 := uG V hs hsz (n + 1)
  refine .inr ⟨by rw [h1.len hi]; exact Nat.le_refl _, by rw [h2.len hi]; omega, fun q hq => ?_⟩
  cases q with
  |zero => exact (h1.2 i hi).trans (h2.2 i hi).symm
  |succ q =>
   have h3 := (H.rel (q + 1) sz _ _ (by omega) (by omega) (gE V hs q) (uG V hs hsz n) (aP2 hs H hsz n q (by omega) (by omega)) i).get (i := q) (by omega)
   rw [nL V start hi, zQ _ _ _ (by omega), itR, pM, pZ hi, kF, zQ _ _ _ (by omega)]
   simp only [sF] at h3
   rw [h3]
theorem a8Z {m : Nat} {s s' : List Int} (h : pR m s s') (h1 : s.length = m) (h2 : s'.length = m) : s = s' := by
 apply List.ext_getElem
 ·rw [h1, h2]
 ·intro i a b
  have := h.get (i := i) (by omega)
  rw [sF, sF, List.getD_eq_getElem?_getD, List.getElem?_eq_getElem a, List.getD_eq_getElem?_getD, List.getElem?_eq_getElem b] at this
  exact this
theorem aUD {V : Nat → List (List Int) → List (List Int)} {start : List Int} (hs : dP start) (H : VF start V) {o n : Nat} (hn : o ≤ n) : itR V start (o + 1) n = fS V start o := by
 have h := aP2 hs H (sz := o + 1) (by omega) n o hn (by omega)
 have h1 := gE V hs o
 have h2 := uG V hs (sz := o + 1) (by omega) n
 apply List.ext_getElem
 ·rw [gA, zP]
 ·intro i a b
  rw [zP] at a
  have := a8Z (h.get (.inl ⟨rfl, rfl⟩) i) (h1.len a) (h2.len a)
  rw [List.getD_eq_getElem?_getD, List.getElem?_eq_getElem b, List.getD_eq_getElem?_getD, List.getElem?_eq_getElem (by rw [zP]; exact a)] at this
  exact this.symm
theorem aUE (V : Nat → List (List Int) → List (List Int)) {start : List Int} (hs : dP start) {j k : Nat} (h : j ≤ k) : eG (pR (j + 1)) (fS V start j) (fS V start k) :=
 eG.of (by rw [gA, gA]) fun i hi => by
  rw [gA] at hi
  refine .inr ⟨by rw [(gE V hs j).len hi]; exact Nat.le_refl _, by rw [(gE V hs k).len hi]; omega, fun q hq => ?_⟩
  cases q with
  |zero => exact ((gE V hs j).2 i hi).trans ((gE V hs k).2 i hi).symm
  |succ q => rw [nL V start hi, nL V start hi, zQ _ _ _ (by omega), zQ _ _ _ (by omega)]
structure aGL (p : aC) (f : Int) (start L : List Int) (F : b5) (u : Nat) : Prop where
 ok : (⟨start.length, F.code, F.guards, L⟩ : kL).ok
 ins : ∀ i c, F.code[i]? = some c → bE start.length i c
 one : 1 ≤ F.code.length
 cap : F.code.length ≤ 3200
 outs : ∀ r ∈ L, 0 ≤ r ∧ r < F.code.length
 lo : 1 ≤ L.length
 ll : L.length = (p.outs f).length
 ev : ∀ sz X, 1 ≤ sz → St start sz X → xU p sz f X = .ok (L.map fun r => l6 sz X F.code r.toNat, u)
 nz : ∀ sz X, 1 ≤ sz → St start sz X → ∀ (i : Nat) (c : aZ), F.code[i]? = some c → c.fM = 6 → ¬ (l6 sz X F.code c.fB.toNat).getD 0 0 = 0
theorem a0I {p : aC} (hp : p.ok) {f : Int} (hf : 0 ≤ f ∧ f < p.aJ.length) {args : List Int} (na : dP args) (h12 : args.length ≤ 12) (hl : ∀ G, p.aJ[f.toNat]? = some G → (args.length : Int) = G.aX) {L : List Int} {F : b5} {u : Nat} (hX : vT p f args = .ok ((L, F), u)) : aGL p f args L F u := by
 obtain ⟨G, eG, hO1, hO2, hO3, hO4⟩ := oM hp hf
 obtain ⟨q1, q2, q3, q4⟩ := (aHX hp f hf args na hl).1 _ _ hX
 simp only at q1 q2 q3 q4
 have hcl := q1.len
 have hcap := q1.cap
 have hgc := q1.m5
 have hu := q4.2.2.2
 have hL1 : 1 ≤ L.length := by rw [q3.1, hO3]; omega
 have h1 : ∀ x ∈ L, 0 ≤ x ∧ x < (F.code.length : Int) := fun x hx => by
  have := q3.2 x hx
  unfold j5 at this
  omega
 have hone : 1 ≤ F.code.length := by
  have := h1 (L.getD 0 0) (by rw [List.getD_eq_getElem?_getD, List.getElem?_eq_getElem hL1]; exact List.getElem_mem _)
  omega
 have hsim : aXR args.length F fun _ => True := ⟨q1.ins, fun _ _ _ _ => ⟨fun _ => ⟨trivial, trivial⟩, fun _ => trivial⟩, fun _ _ => trivial, fun _ _ _ _ => trivial⟩
 have hb : ∀ sz X, 1 ≤ sz → St args sz X → _ := fun sz X hsz hX' => aQ5 hp hsz hf na hl hX hsim (args := X) hX'.1.2 hX'.1.1 (fun i hi _ => hX'.2 i hi)
 refine ⟨⟨by simp only; omega, ⟨by simp only; omega, by simp only; omega, hL1, by simp only; rw [q3.1, hO3]; omega⟩, fun k hk => ?_, fun g hg => ?_, fun r hr => by have := h1 r hr; simp only; omega⟩, q1.ins, hone, by omega, h1, hL1, q3.1, fun sz X hsz hX' => (hb sz X hsz hX').1, fun sz X hsz hX' i c ec h6 => ?_⟩
 ·have hk' : k < F.code.length := hk
  have hc := q1.ins k _ (List.getElem?_eq_getElem hk')
  show aK6 F.code[k] k args.length
  unfold bE iI at hc
  unfold aK6 iI
  omega
 ·have := q1.gds g hg
  simp only
  omega
 ·have hc := q1.ins i c ec
  have hi := (List.getElem?_eq_some_iff.1 ec).1
  have hd := (hb sz X hsz hX').2
  unfold bE at hc
  rw [hd.1 c.fB.toNat (by omega) trivial]
  exact hd.2 i c ec h6
def Vy (code : List aZ) (L : List Int) (sz : Nat) (X : List (List Int)) : List (List Int) := L.map fun r => l6 sz X code r.toNat
def Vz (code : List aZ) (L : List Int) (Y : Nat → List (List Int)) (sz : Nat) (X : List (List Int)) : List (List Int) := L.map fun r => xO sz X (fun i => l6 sz (Y (sz - 1)) code i) code r.toNat
theorem vZ {L : List Int} {g : Int → List Int} {i : Nat} (hi : i < L.length) : (L.map g).getD i [] = g (L.getD i 0) := by
 rw [List.getD_eq_getElem?_getD, List.getElem?_map, bR hi]; rfl
theorem aCF {L : List Int} {g : Int → List Int} {i : Nat} (hi : ¬ i < L.length) : (L.map g).getD i [] = [] := by
 rw [List.getD_eq_getElem?_getD, List.getElem?_eq_none (by rw [List.length_map]; omega)]; rfl
theorem aUF {L : List Int} {i : Nat} (hi : i < L.length) : L.getD i 0 ∈ L := by
 rw [List.getD_eq_getElem?_getD, List.getElem?_eq_getElem hi]; exact List.getElem_mem _
theorem a0J {p : aC} {f : Int} {start L : List Int} {F : b5} {u : Nat} (T : aGL p f start L F u) (hl : L.length = start.length) : VF start (Vy F.code L) where
 ser sz X hsz hX := ⟨by rw [Vy, List.length_map, hl], fun s hs => by
  obtain ⟨r, hr, rfl⟩ := List.mem_map.1 hs
  have := T.outs r hr
  exact rJ T.ins hX.1.2 (by rw [hX.1.1]) _ (by omega)⟩
 rel m sz X X' hm hms hX hX' hR i := by
  by_cases hi : i < L.length
  ·rw [Vy, Vy, vZ hi, vZ hi]
   have := T.outs _ (aUF hi)
   exact aIN (a3A (by omega) (Nat.le_refl _) hms) T.ins hR _ _ (Nat.lt_succ_self _) (by omega)
  ·rw [Vy, Vy, aCF hi, aCF hi]; exact .inl ⟨rfl, rfl⟩
theorem a0K {p : aC} {f : Int} {start dir L : List Int} {F : b5} {u : Nat} (T : aGL p f start L F u) (hl : L.length = start.length) (hd : dir.length = start.length) (hs : dP start) : VF dir (Vz F.code L (fS (Vy F.code L) start)) where
 ser sz X hsz hX := ⟨by rw [Vz, List.length_map, hl, hd], fun s hs' => by
  obtain ⟨r, hr, rfl⟩ := List.mem_map.1 hs'
  have := T.outs r hr
  have hy := gE (Vy F.code L) hs (sz - 1)
  rw [Nat.sub_add_cancel hsz] at hy
  exact aCE hsz T.ins hX.1.2 (by rw [hX.1.1, hd]) (fun k hk => rJ T.ins hy.1.2 (by rw [hy.1.1]) k hk) _ _ (Nat.lt_succ_self _) (by omega)⟩
 rel m sz X X' hm hms hX hX' hR i := by
  by_cases hi : i < L.length
  ·rw [Vz, Vz, vZ hi, vZ hi]
   have := T.outs _ (aUF hi)
   have hr := aUE (Vy F.code L) hs (j := m - 1) (k := sz - 1) (by omega)
   rw [Nat.sub_add_cancel hm] at hr
   exact aP1 (a3A (by omega) (Nat.le_refl _) hms) T.ins hR (fun k hk => aIN (a3A (by omega) (Nat.le_refl _) hms) T.ins hr _ _ (Nat.lt_succ_self _) hk) _ _ (Nat.lt_succ_self _) (by omega)
  ·rw [Vz, Vz, aCF hi, aCF hi]; exact .inl ⟨rfl, rfl⟩
set_option maxRecDepth 100000
def aC.par (p : aC) (f : Int) : Int := ((p.aJ[f.toNat]?).map (·.aX)).getD 0
noncomputable def gL (p : aC) (f : Int) (P : Int → Int → Bool) : Int := if p.ok then if 0 ≤ f ∧ f ≤ (p.aJ.length : Int) - 1 then if P (p.par f) (p.outs f).length = true then 0 else 2 else 2 else 1
def l9 (a b : Int) : Bool := decide (1 ≤ a ∧ a ≤ 12) && decide (b = a)
theorem aUG (a b : Int) : dV Tryz.prog 186 [I a, I b] (.bool (l9 a b)) := by
 refine dS 12 aAI bT bD mix Tryz.func186 rfl (by kernel_rfl) (by simp) fun h => ?_
 simp -dsimp -implicitDefEqProofs only [go_sem, ↓reduceIte, Tryz.f186]
 first | refine aG.mk (within a 1 12) ?_ | refine aE.mk (within a 1 12) ?_ | refine aG.a8 (within a 1 12) ?_ | refine aE.mk (a6.cK (within a 1 12)) ?_
 simp -dsimp -implicitDefEqProofs only [go_sem, ↓reduceIte, Tryz.f186]
 refine ⟨fun h => ?_, fun h => ?_⟩
 ·rw [l9, decide_eq_true h, Bool.true_and]
 ·rw [l9, decide_eq_false h, Bool.false_and]
theorem aET {p : aC} {f : Int} (h1 : p.ok) (h2 : 0 ≤ f ∧ f ≤ (p.aJ.length : Int) - 1) : ∃ F, p.aJ[f.toNat]? = some F ∧ p.par f = F.aX ∧ p.outs f = F.aM ∧ ∀ P : Int → Int → Bool, gL p f P = if P F.aX F.aM.length = true then 0 else 2 := by
 have ef : p.aJ[f.toNat]? = some (p.aJ[f.toNat]'(by omega)) := List.getElem?_eq_getElem (by omega)
 have e1 : p.par f = (p.aJ[f.toNat]'(by omega)).aX := by rw [aC.par, ef]; rfl
 have e2 : p.outs f = (p.aJ[f.toNat]'(by omega)).aM := by rw [aC.outs, ef]; rfl
 exact ⟨_, ef, e1, e2, fun P => by rw [gL, if_pos h1, if_pos h2, e1, e2]⟩
@[go_sem] def aIP : List Nat := [0, 1, 2, 3, 6, 7, 30]
@[go_sem] def aUH : Marks := fun id => match id with | 2 => ([16, 17], (.op 0 (.op 1 (.op 2 (.op 3 (.op 4 (.op 5 (.op 6 (.op 7 (.op 8 (.op 9 (.op 10 (.op 11 (.op 12 (.op 13 (.op 14 (.op 15 (.op 16 (.op 17 (.op 18 (.op 19 .nil)))))))))))))))))))), []) | _ => ([], .nil, [])
theorem aUI (p : aC) (f : Int) (hps : p.s ≤ 4194304) {g : Nat} {P : Int → Int → Bool} (hP : ∀ a b, dV Tryz.prog g [I a, I b] (.bool (P a b))) : dV Tryz.prog 164 [.agg p.c, I f, .fn (.func g) [] []] (I (gL p f P)) := by
 have hif := aS4 p f hps
 by_cases h1 : p.ok
 ·by_cases h2 : 0 ≤ f ∧ f ≤ (p.aJ.length : Int) - 1
  ·obtain ⟨F, ef, e1, e2, e3⟩ := aET h1 h2
   have hq := hP F.aX F.aM.length
   rw [if_pos h1, if_pos h2] at hif
   simp only [aC.aN] at hif ⊢
   refine dS 32 aIP aJ1 aUH mix Tryz.func164 rfl (by kernel_rfl) (by simp) fun h => ?_
   simp -dsimp -implicitDefEqProofs only [go_sem, ↓reduceIte, Tryz.f164]
   first | refine aG.mk (hif) ?_ | refine aE.mk (hif) ?_ | refine aG.a8 (hif) ?_ | refine aE.mk (a6.cK (hif)) ?_
   simp -dsimp -implicitDefEqProofs only [go_sem, ↓reduceIte, Tryz.f164, ef, aP.aN]
   refine ⟨by omega, by omega, by omega, by omega, fun _ => aG.mk hq ?_⟩
   simp -dsimp -implicitDefEqProofs only [go_sem, ↓reduceIte, Tryz.f164]
   rw [e3]
   exact ⟨fun q => by rw [if_neg (by rw [q]; decide)], fun q => by rw [if_pos q]⟩
  ·rw [if_pos h1, if_neg h2] at hif
   have e : gL p f P = 2 := by rw [gL, if_pos h1, if_neg h2]
   simp only [aC.aN] at hif ⊢
   refine dS 32 aIP aJ1 aUH mix Tryz.func164 rfl (by kernel_rfl) (by simp) fun h => ?_
   simp -dsimp -implicitDefEqProofs only [go_sem, ↓reduceIte, Tryz.f164]
   first | refine aG.mk (hif) ?_ | refine aE.mk (hif) ?_ | refine aG.a8 (hif) ?_ | refine aE.mk (a6.cK (hif)) ?_
   simp -dsimp -implicitDefEqProofs only [go_sem, ↓reduceIte, Tryz.f164]
   rw [e]
 ·rw [if_neg h1] at hif
  have e : gL p f P = 1 := by rw [gL, if_neg h1]
  simp only [aC.aN] at hif ⊢
  refine dS 32 aIP aJ1 aUH mix Tryz.func164 rfl (by kernel_rfl) (by simp) fun h => ?_
  simp -dsimp -implicitDefEqProofs only [go_sem, ↓reduceIte, Tryz.f164]
  first | refine aG.mk (hif) ?_ | refine aE.mk (hif) ?_ | refine aG.a8 (hif) ?_ | refine aE.mk (a6.cK (hif)) ?_
  simp -dsimp -implicitDefEqProofs only [go_sem, ↓reduceIte, Tryz.f164]
  rw [e]
theorem isField (p : aC) (f : Int) (hps : p.s ≤ 4194304) : dV Tryz.prog 135 [.agg p.c, I f] (I (gL p f l9)) := by
 have hif := aUI p f hps aUG
 simp only [aC.aN] at hif ⊢
 refine dS 8 aZH aML bD mix Tryz.func135 rfl (by kernel_rfl) (by simp) fun h => ?_
 simp -dsimp -implicitDefEqProofs only [go_sem, ↓reduceIte, Tryz.f135]
 first | refine aG.mk (hif) ?_ | refine aE.mk (hif) ?_ | refine aG.a8 (hif) ?_ | refine aE.mk (a6.cK (hif)) ?_
 simp -dsimp -implicitDefEqProofs only [go_sem, ↓reduceIte, Tryz.f135]
theorem aCG (n : Int) : dV Tryz.prog 94 [I n] (.bool (decide (0 ≤ n ∧ n ≤ 12))) := by
 refine dS 5 aAH bT bD mix Tryz.func94 rfl (by kernel_rfl) (by simp) fun h => ?_
 simp -dsimp -implicitDefEqProofs only [go_sem, ↓reduceIte, Tryz.f94]
 first | refine aG.mk (within n 0 12) ?_ | refine aE.mk (within n 0 12) ?_ | refine aG.a8 (within n 0 12) ?_ | refine aE.mk (a6.cK (within n 0 12)) ?_
 simp -dsimp -implicitDefEqProofs only [go_sem, ↓reduceIte, Tryz.f94]
noncomputable def fT (p : aC) (f : Int) (ls : List (List Int)) (order : Int) : Int := if gL p f l9 = 0 then if (∀ l ∈ ls, (l.length : Int) = p.par f ∧ dP l) ∧ 0 ≤ order ∧ order ≤ 12 then 0 else 2 else gL p f l9
theorem xQ {p : aC} {f : Int} {P : Int → Int → Bool} (h : gL p f P = 0) : p.ok ∧ (0 ≤ f ∧ f < p.aJ.length) ∧ ∃ F, p.aJ[f.toNat]? = some F ∧ p.par f = F.aX ∧ p.outs f = F.aM ∧ P F.aX F.aM.length = true := by
 by_cases h1 : p.ok
 ·by_cases h2 : 0 ≤ f ∧ f ≤ (p.aJ.length : Int) - 1
  ·obtain ⟨F, ef, e1, e2, e3⟩ := aET h1 h2
   rw [e3] at h
   refine ⟨h1, by omega, F, ef, e1, e2, ?_⟩
   by_cases e : P F.aX F.aM.length = true
   ·exact e
   ·rw [if_neg e] at h; cases h
  ·rw [gL, if_pos h1, if_neg h2] at h; cases h
 ·rw [gL, if_neg h1] at h; cases h
@[go_sem] def aNL : List Nat := [0, 1, 2, 3, 4, 8, 9, 11, 16, 18, 19, 20, 21, 32, 36]
theorem aIQ (p : aC) (f : Int) (hps : p.s ≤ 4194304) (ls : List (List Int)) (hl : ls.length ≤ 1048576) (order : Int) : dV Tryz.prog 56 [.agg p.c, I f, I order, bI ls] (I (fT p f ls order)) := by
 have hif := isField p f hps
 by_cases h0 : gL p f l9 = 0
 ·obtain ⟨h1, h2, F, ef, e1, e2, e3⟩ := xQ h0
  rw [h0] at hif
  have e : fT p f ls order = if (∀ l ∈ ls, (l.length : Int) = F.aX ∧ dP l) ∧ 0 ≤ order ∧ order ≤ 12 then 0 else 2 := by rw [fT, if_pos h0, e1]
  simp only [aC.aN] at hif ⊢
  refine dS 37 aNL aDC bD mix Tryz.func56 rfl (by kernel_rfl) (by simp) fun h => ?_
  simp -dsimp -implicitDefEqProofs only [go_sem, ↓reduceIte, Tryz.f56]
  first | refine aG.mk (hif) ?_ | refine aE.mk (hif) ?_ | refine aG.a8 (hif) ?_ | refine aE.mk (a6.cK (hif)) ?_
  simp -dsimp -implicitDefEqProofs only [go_sem, ↓reduceIte, Tryz.f56]
  refine fun _ => ?_
  refine bX (keep := aNL) (ib := aDC) (mk := bD) mix (by kernel_rfl) (fun k : Nat => [(1, I f), (2, I order), (4, .ip 1 [[dB 3 aP.c p.aJ]] 0 0), (18, bI ls), (19, I ls.length), (20, I k)]) (fun _ => h) (fun k => k ≤ ls.length ∧ ∀ l ∈ ls.take k, (l.length : Int) = F.aX ∧ dP l) (fun k => ls.length - k) 0 ⟨by simp [b8, bJ], aB.le_refl _, Nat.zero_le _, by simp⟩ ?_
  rintro k ⟨hk, hkl⟩
  rcases Nat.lt_or_ge k ls.length with hlt | hge
  ·have ea : ls[k]? = some ls[k] := List.getElem?_eq_getElem hlt
   have hn := aDR ls[k] F.aX
   simp -dsimp -implicitDefEqProofs only [go_sem, ↓reduceIte, Tryz.f56, hlt, ea, ef, aP.aN]
   refine ⟨h2.1, h2.2, aG.mk hn ?_⟩
   simp -dsimp -implicitDefEqProofs only [go_sem, ↓reduceIte, Tryz.f56, hlt, ea, ef, aP.aN]
   have h3 : ls.take (k + 1) = ls.take k ++ [ls[k]] := List.take_succ_eq_append_getElem hlt
   refine ⟨fun q => ?_, fun q => ⟨k + 1, IntWalk.i64_in _ (by omega), ⟨hlt, fun l hm => ?_⟩, by omega⟩⟩
   ·rw [e, if_neg fun z => q (z.1 _ (List.getElem_mem hlt))]
   ·rw [h3, List.mem_append, List.mem_singleton] at hm
    rcases hm with hm | rfl
    ·exact hkl l hm
    ·exact q
  ·obtain rfl : k = ls.length := by omega
   simp -dsimp -implicitDefEqProofs only [go_sem, ↓reduceIte, Tryz.f56, Nat.lt_irrefl, Int.lt_irrefl]
   first | refine aG.mk (aCG order) ?_ | refine aE.mk (aCG order) ?_ | refine aG.a8 (aCG order) ?_ | refine aE.mk (a6.cK (aCG order)) ?_
   simp -dsimp -implicitDefEqProofs only [go_sem, ↓reduceIte, Tryz.f56]
   rw [List.take_length] at hkl
   exact ⟨fun q => by rw [e, if_neg fun z => q z.2], fun q => by rw [e, if_pos ⟨hkl, q⟩]⟩
 ·have e : fT p f ls order = gL p f l9 := by rw [fT, if_neg h0]
  generalize gL p f l9 = c at *
  simp only [aC.aN] at hif ⊢
  refine dS 37 aNL aDC bD mix Tryz.func56 rfl (by kernel_rfl) (by simp) fun h => ?_
  simp -dsimp -implicitDefEqProofs only [go_sem, ↓reduceIte, Tryz.f56]
  first | refine aG.mk (hif) ?_ | refine aE.mk (hif) ?_ | refine aG.a8 (hif) ?_ | refine aE.mk (a6.cK (hif)) ?_
  simp -dsimp -implicitDefEqProofs only [go_sem, ↓reduceIte, Tryz.f56, h0]
  rw [e]
theorem aG.a0L {P : Program} {f : FuncId} {args args' : List aD} {R : OV → Prop} {d : aD} {g : aB} {K : aD → aB → Prop} {t : Tag K} (a : rQ P f args' (QS R)) (hd : ∀ y, R y → y.lA = d) (hs : ∀ y, R y → y.sol = true) (hv : eJ g args args') (k : K d g) : aG P f args g K t :=
 aG.fF (aJ4 (r := d) g (a.aWM hv (QS.fG hs fun _ h => h)) fun r' h' ⟨l, ⟨y, hy, e1, e2⟩, n⟩ => by
  subst e1 e2
  exact ⟨_, n, fun E w v R rx => hd y hy ▸ dY.yM R y n.iJ (fun p hp => bP.2 ⟨p.2, hp⟩) v rx⟩) fun r h' ⟨e1, e2⟩ => by subst e1 e2; exact k
theorem aG.a80 {P : Program} {f : FuncId} {args args' : List aD} {l : List Int} {g : aB} {K : aD → aB → Prop} {t : Tag K} (a : rQ P f args' (QS (OS (oP I) 1 l))) (hv : eJ g args args') (k : K (ints l) g) : aG P f args g K t :=
 aG.a0L a (fun y hy => OS.lA (c := fun n => [I n]) (fun _ _ q => rO q) hy) (fun y hy => OS.sol (fun _ _ q => aMQ (fun _ => rfl) q) hy) hv k
def oI (n : Nat) (s : List Int) : List OV := [OV.sl n 1 (s.map fun x => [.v (I x)])]
theorem aP3 (n : Nat) (s : List Int) : ((oI n s).map fun c => Cell.v c.val) = [.v (.os n 1 0 s.length)] := by rw [oI, List.map_singleton, OV.j9]
theorem a3D (n : Nat) (s : List Int) : oL I s (oI n s) := ⟨_, rfl, OS.mk (aDD s)⟩
theorem a3E {g : aB} {n : Nat} (s : List Int) (h : g n = none) : iM g (OV.bM (oI n s)) (a5 g n (l7 s)) := by
 rw [oI, OV.cT, OV.eC, List.append_nil, OV.dI, hU, fV]; exact iM.one h
abbrev LLx := Option Nat × List (List OV) × aB
def xW (h : aB) (L : List (List Int)) (x : LLx) : Prop := OR (oL I) L x.2.1 ∧ iM h (OV.bG x.2.1) x.2.2 ∧ aOU x.2.2 x.2.1 x.1
def rX (x : LLx) : aB := gQ x.2.2 (.row 1 (OV.cells x.2.1)) x.1
theorem xW.init (h : aB) : xW h [] (none, [], h) := ⟨trivial, iM.nil h, rfl⟩
theorem xW.len {h : aB} {L : List (List Int)} {x : LLx} (H : xW h L x) : x.2.1.length = L.length := H.1.length.symm
theorem xW.nil {h g : aB} {L : List (List Int)} {es : List (List OV)} (H : xW h L (none, es, g)) : L = [] ∧ es = [] ∧ h = g := by
 obtain ⟨h1, h2, h3⟩ := H
 have e : es = [] := h3
 subst e
 cases L with
 |cons s L => exact h1.elim
 |nil => exact ⟨rfl, rfl, funext fun q => (h2.upto q (by simp [OV.bG, aY])).symm⟩
theorem xW.snoc {h g : aB} {L : List (List Int)} {o : Option Nat} {es : List (List OV)} (H : xW h L (o, es, g)) {m b : Nat} (s : List Int) (hm : g m = none) (hb : g b = none) (hbm : ¬ b = m) : xW h (L ++ [s]) (some b, es ++ [oI m s], a5 g m (l7 s)) :=
 ⟨OR.append H.1 ⟨a3D m s, trivial⟩, H.2.1.snoc (a3E s hm), by show a5 g m (l7 s) b = none; rw [aF _ _ _ _ hbm]; exact hb⟩
theorem rX.snoc {es : List (List OV)} {g : aB} {m b : Nat} {s : List Int} : rX (some b, es ++ [oI m s], a5 g m (l7 s)) = a5 (a5 g m (l7 s)) b (.row 1 (OV.cells es ++ [[.v (.os m 1 0 s.length)]])) := by
 rw [rX, aL, aMX, aP3]
theorem xW.done {h : aB} {L : List (List Int)} {x : LLx} (H : xW h L x) : ∃ y : OV, OS (oL I) 1 L y ∧ y.val = eK 1 L.length x.1 ∧ iM h y.rows (rX x) := by
 obtain ⟨o, es, g⟩ := x
 refine ⟨gov 1 es o, a13 H.1 H.2.2, ?_, aWQ H.2.1 H.2.2⟩
 cases o with
 |none =>
  have := H.nil
  rw [aKF, OV.yO, a7]
 |some n => rw [aKG, OV.nD, aT, H.len]
theorem aX6 (x : List Int) (e : List OV) (h : oL I x e) : e.map OV.lA = [ints x] := a2R h
theorem sW {L : List (List Int)} {y : OV} (h : OS (oL I) 1 L y) : y.lA = bI L := OS.lA (c := fun s => [ints s]) aX6 h
theorem aX7 (x : List Int) (e : List OV) (h : oL I x e) : OV.lG e = true := by
 obtain ⟨y, rfl, hy⟩ := h
 rw [OV.lG, OS.sol (fun _ _ q => aMQ (fun _ => rfl) q) hy]; rfl
theorem aRC {L : List (List Int)} {y : OV} (h : OS (oL I) 1 L y) : y.sol = true := OS.sol aX7 h
theorem aG.aUJ {P : Program} {f : FuncId} {args args' : List aD} {L : List (List Int)} {g : aB} {K : aD → aB → Prop} {t : Tag K} (a : rQ P f args' (QS (OS (oL I) 1 L))) (hv : eJ g args args') (k : K (bI L) g) : aG P f args g K t :=
 aG.a0L a (fun y hy => sW hy) (fun y hy => aRC hy) hv k
theorem aNM {P : Program} {f : FuncId} {args : List aD} {L : List (List Int)} (a : rQ P f args (QS (OS (oL I) 1 L))) : dV P f args (bI L) := QS.cK a fun y hy => sW hy
theorem aIR {P : Program} {f : FuncId} {args : List aD} {L : List (List Int)} {c : Int} (a : rQ P f args (QS (OS (oL I) 1 L) (fun y => .gN [y, I c]))) : dV P f args (.gN [bI L, I c]) := QS.a7N a (fun y hy => sW hy) (aJ9 [] [I c])
theorem aX8 {g : aB} {n m b : Nat} {o r X : bL} (hn : g n = none) (hmn : ¬ m = n) : (a5 (a5 g m r) b X).le (a5 (a5 (a5 (a5 g n o) m r) n .gone) b X) := fun q => by
 by_cases e : q = b
 ·rw [e, aH, aH]; exact .inr rfl
 rw [aF _ _ _ _ e, aF _ _ _ _ e]
 by_cases e2 : q = n
 ·rw [e2, aF _ _ _ _ (Ne.symm hmn)]; exact .inl hn
 rw [aF _ _ _ _ e2]
 by_cases e3 : q = m
 ·rw [e3, aH, aH]; exact .inr rfl
 ·rw [aF _ _ _ _ e3, aF _ _ _ _ e3, aF _ _ _ _ e2]; exact .inr rfl
theorem xW.fin {h g F : aB} {L : List (List Int)} {o : Option Nat} {es : List (List OV)} (H : xW h L (o, es, g)) {m b sz : Nat} {s : List Int} (hs : s.length = sz) (hm : g m = none) (hb : g b = none) (hbm : ¬ b = m) (hF : (a5 (a5 g m (l7 s)) b (.row 1 (OV.cells es ++ [[.v (.os m 1 0 sz)]]))).le F) :
  ∃ x : LLx, x.1 = some b ∧ xW h (L ++ [s]) x ∧ (rX x).le F := by
 subst hs
 exact ⟨_, rfl, H.snoc s hm hb hbm, by rw [rX.snoc]; exact hF⟩
theorem zR {g F : aB} {n m b : Nat} {r X : bL} (hn : g n = none) (hmn : ¬ m = n) (hbn : ¬ b = n) (hF : ∀ q, ¬ q = n → F q = a5 (a5 g m r) b X q) : (a5 (a5 g m r) b X).le F := fun q => by
 by_cases e : q = n
 ·rw [e, aF _ _ _ _ (Ne.symm hbn), aF _ _ _ _ (Ne.symm hmn)]; exact .inl hn
 ·exact .inr (hF q e).symm
@[go_sem] def aUK : List Nat := [0, 1, 4, 5, 7, 8, 10, 11, 12, 13]
@[go_sem] def a81 : List Nat := [9, 24]
theorem aAS (l : List Int) {sz : Nat} (hl : l.length ≤ 1048576) (hsz : 1 ≤ sz ∧ sz ≤ 1048576) : rQ Tryz.prog 59 [ints l, I ((sz : Int) - 1)] (QS (OS (oL I) 1 (l8 l sz))) := by
 have hel : (l8 l sz).length = l.length := by simp [l8]
 have e1 : IntKind.i64.wrap ((sz : Int) - 1 + 1) = (sz : Int) := by rw [IntWalk.i64_in _ (by omega)]; omega
 have e2 := y9 (x := [aD.int .i64 0]) hsz.1
 refine qD 28 aUK a81 bD mix Tryz.func59 rfl (by kernel_rfl) (by simp) fun h => ?_
 simp -dsimp -implicitDefEqProofs only [go_sem, ↓reduceIte, Tryz.f59]
 refine ⟨Nat.zero_lt_one, fun _ => ?_⟩
 refine bX (keep := aUK) (ib := a81) (mk := bD) mix (by kernel_rfl) (fun x : Nat × LLx => [(1, I ((sz : Int) - 1)), (5, eK 1 x.1 x.2.1), (10, ints l), (11, I l.length), (12, I x.1)]) (fun x => rX x.2) (fun x => x.1 ≤ l.length ∧ xW h ((l8 l sz).take x.1) x.2) (fun x => l.length - x.1) (0, none, [], h) ⟨by simp [b8, bJ, eK], aB.le_refl _, Nat.zero_le _, xW.init _⟩ ?_
 rintro ⟨k, op, es, g⟩ ⟨hk, H⟩
 simp only at hk H ⊢
 rcases Nat.lt_or_ge k l.length with hlt | hge
 ·have ea : l[k]? = some l[k] := List.getElem?_eq_getElem hlt
  have hy : (l8 l sz).take (k + 1) = (l8 l sz).take k ++ [cF l[k] sz] := by
   rw [List.take_succ_eq_append_getElem (by omega)]; simp [l8]
  have hlk : ((l8 l sz).take k).length = k := by rw [List.length_take]; omega
  have nM := H.len
  simp only [hlk] at nM
  cases op with
  |none =>
   obtain ⟨h1, rfl, rfl⟩ := H.nil
   simp -dsimp -implicitDefEqProofs only [go_sem, ↓reduceIte, Tryz.f59, hlt, ea, e1, e2, a7, rX, aR, Int.toNat_natCast]
   refine ⟨Nat.zero_lt_one, Nat.le_refl _, by omega, by omega, fun m zm => ⟨by omega, ?_⟩⟩
   rw [aK, show Int.toNat 0 = 0 from rfl, sJ]
   obtain rfl : k = 0 := by rw [← hlk, h1]; rfl
   refine ⟨Nat.zero_lt_one, Nat.zero_lt_one, Nat.zero_lt_one, fun b ⟨b1, _, b2⟩ => ?_⟩
   obtain ⟨x', e', H', L'⟩ := H.fin (m := m) (b := b) (s := cF l[0] sz) (lH _ _) zm b2 b1 (aB.le_refl _)
   refine ⟨(1, x'), ⟨by simp only [e']; rfl, IntWalk.i64_in _ (by omega)⟩, L', ⟨hlt, by simp only; rw [hy]; exact H'⟩, by simp only; omega⟩
  |some n =>
   simp -dsimp -implicitDefEqProofs only [go_sem, ↓reduceIte, Tryz.f59, hlt, ea, e1, e2, aT, rX, aL, Int.toNat_natCast, fX, nM]
   refine ⟨Nat.zero_lt_one, Nat.le_refl _, by omega, by omega, fun m ⟨m1, zm⟩ => ⟨by omega, Nat.zero_lt_one, Nat.zero_lt_one, Nat.zero_lt_one, ?_⟩⟩
   have gX : ¬ m = n := m1
   have nK : ¬ n = m := Ne.symm gX
   have cY : (m = n) = False := eq_false gX
   have cZ : (n = m) = False := eq_false nK
   rw [aK, show Int.toNat 0 = 0 from rfl, sJ]
   simp -dsimp -implicitDefEqProofs only [go_sem, ↓reduceIte, Tryz.f59, cY, cZ, aF, fX, nM]
   refine ⟨Nat.le_refl _, by omega, by omega, fun b ⟨b1, _, b2⟩ => ?_⟩
   rw [show List.take k (OV.cells es) = OV.cells es from nM ▸ oC es]
   obtain ⟨x', e', H', L'⟩ := H.fin (m := m) (b := b) (s := cF l[k] sz) (lH _ _) zm b2 b1 (aX8 H.2.2 gX)
   refine ⟨(k + 1, x'), ⟨by simp only [e']; rfl, IntWalk.i64_in _ (by omega)⟩, L', ⟨hlt, by simp only; rw [hy]; exact H'⟩, by simp only; omega⟩
 ·have hk' : k = l.length := by omega
  subst hk'
  simp -dsimp -implicitDefEqProofs only [go_sem, ↓reduceIte, Tryz.f59, Nat.lt_irrefl, Int.lt_irrefl]
  rw [List.take_of_length_le (by omega)] at H
  obtain ⟨y, hy, hv, hw⟩ := H.done
  rw [hel] at hv
  exact ⟨_, _, _, aV _ _, ⟨y, hy, hv.symm, rfl⟩, hw⟩
theorem qP (x : Int) (v : List Int) {sz : Nat} (h : 1 ≤ sz) : (kF x v sz).length = sz := by simp [kF]; omega
theorem aX9 (x : Int) (v : List Int) {sz k : Nat} (h : k + 1 < sz) (hk : k + 1 < (kF x v sz).length) : (kF x v sz)[k + 1] = v.getD k 0 * iQ ((k : Int) + 1) % 1000003 := by simp [kF]
theorem aYA {c : List Int} (h : 0 < c.length) (h0 : c[0] = 0) : wE c 1 = List.replicate c.length 0 := by
 rw [← wF h, h0, vN]
 apply List.ext_getElem
 ·simp
 ·intro i a b
  rw [List.getElem_set]
  split <;> simp
@[go_sem] def a82 : Marks := fun id => match id with | 5 => ([12], (.op 0 (.op 1 (.op 2 (.op 3 (.op 4 (.op 5 (.op 6 (.op 7 (.op 8 (.op 9 (.op 10 (.op 11 (.op 12 .nil))))))))))))), []) | _ => ([], .nil, [])
theorem aGM (a : List Int) (hl : 1 ≤ a.length ∧ a.length ≤ 1048576) (ha : dP a) : rQ Tryz.prog 62 [ints a] (QS (OS (oP I) 1 (kF 0 a a.length))) := by
 refine qD 27 wN bT a82 mix Tryz.func62 rfl (by kernel_rfl) (by simp) fun h => ?_
 simp -dsimp -implicitDefEqProofs only [go_sem, ↓reduceIte, Tryz.f62]
 have hc := qP 0 a hl.1
 refine fun _ => ⟨Nat.zero_lt_one, Nat.le_refl _, by omega, by omega, fun n hn => ?_⟩
 rw [rD]
 refine tP (keep := wN) (ib := bT) (mk := a82) mix (by kernel_rfl) (fun k : Nat => [(0, ints a), (3, .os n 1 0 a.length), (4, I k)]) n (fun k => .row 1 (((wE (kF 0 a a.length) k).map fun n => [I n]).map (List.map .v))) (fun k => 1 ≤ k ∧ k ≤ a.length) (fun k => a.length - k) 1 ⟨by simp [b8, bJ], by rw [aH, aYA (by omega) (by simp [kF]), hc], Nat.le_refl _, hl.1⟩ ?_
 rintro k ⟨h1, hk⟩
 rcases Nat.lt_or_ge k a.length with hlt | hge
 ·obtain ⟨k, rfl⟩ : ∃ j, k = j + 1 := ⟨k - 1, by omega⟩
  have ea := bR (l := a) (i := k) (by omega)
  have eu := yU (c := kF 0 a a.length) (k := k + 1) (by omega)
  have el := yT (kF 0 a a.length) (k := k + 1) (by omega)
  have ew : IntKind.i64.wrap (((k + 1 : Nat) : Int) - 1) = (k : Int) := by rw [IntWalk.i64_in _ (by omega)]; omega
  simp -dsimp -implicitDefEqProofs only [go_sem, ↓reduceIte, Tryz.f62, aK, hlt, ea, eu, el, hc, ew]
  refine fun _ => ⟨by omega, ?_⟩
  first | refine aG.mk (mF ((k + 1 : Nat) : Int)) ?_ | refine aE.mk (mF ((k + 1 : Nat) : Int)) ?_ | refine aG.a8 (mF ((k + 1 : Nat) : Int)) ?_ | refine aE.mk (a6.cK (mF ((k + 1 : Nat) : Int))) ?_
  simp -dsimp -implicitDefEqProofs only [go_sem, ↓reduceIte, Tryz.f62, aK, hlt, eu, el, hc]
  have h2 := num_mul (ha.get k) (num_inv ((k + 1 : Nat) : Int))
  refine ⟨k + 1 + 1, by rw [IntWalk.i64_in _ (by omega)]; rfl, ?_, ⟨by omega, by omega⟩, by omega⟩
  have hv : (kF 0 a a.length)[k + 1]'(by omega) = a.getD k 0 * iQ ((k : Int) + 1) % 1000003 := aX9 0 a hlt (by omega)
  rw [aKR h2.1 (by omega), ← wF (by omega), hv, ← pC I]
  exact aB.le_refl _
 ·have hk' : k = a.length := by omega
  subst hk'
  simp -dsimp -implicitDefEqProofs only [go_sem, ↓reduceIte, Tryz.f62, aK, Nat.lt_irrefl]
  have hu : wE (kF 0 a a.length) a.length = kF 0 a a.length := by
   have := yS (kF 0 a a.length)
   rwa [hc] at this
  intro _
  rw [hu]
  have := rC (c := I) (l := kF 0 a a.length) (sz := 1) hn
  rwa [hc] at this
@[go_sem] def aYB : List Nat := [0, 2, 5]
theorem aIS {l : List (List Int)} {sz n : Nat} (h : eS sz n l) (hn : 1 ≤ n) : dV Tryz.prog 114 [bI l] (I ((sz : Int) - 1)) := by
 have h0 := h.get (i := 0) (by omega)
 have h1 := h.1
 have e0 : l[Int.toNat 0]? = some (l.getD 0 []) := h0.1
 have l0 := h0.2.1
 refine dS 11 aYB bT bD mix Tryz.func114 rfl (by kernel_rfl) (by simp) fun h => ?_
 simp -dsimp -implicitDefEqProofs only [go_sem, ↓reduceIte, Tryz.f114, e0, l0]
 exact fun _ => ⟨fun q => by omega, fun _ => ⟨by omega, fun _ => IntWalk.i64_in _ (by omega)⟩⟩
@[go_sem] def aIT : List Nat := [0, 1, 2, 3, 6, 7, 8, 10, 11, 12, 13, 14, 26, 29, 30, 31, 32]
@[go_sem] def aUL : List Nat := [3, 28, 48]
@[go_sem] def aUM : Marks := fun id => match id with | 1 => ([], (.op 0 (.op 1 (.op 2 (.op 3 (.op 4 (.op 5 (.op 6 (.op 7 (.op 8 (.op 9 (.op 10 (.op 11 (.op 12 .nil))))))))))))), []) | _ => ([], .nil, [])
theorem a3F {p : aC} (hp : p.ok) {sz : Nat} (hsz : 1 ≤ sz ∧ sz ≤ 1048576) (f : Int) (hf : 0 ≤ f ∧ f < p.aJ.length) {start : List Int} (hs : 1 ≤ start.length ∧ start.length ≤ 1048576) {X : List (List Int)} (hX : St start sz X) (hl : ∀ F, p.aJ[f.toNat]? = some F → (start.length : Int) = F.aX) {V : Nat → List (List Int) → List (List Int)} {u : Nat} (hV : eS sz start.length (V sz X)) (qQ : xU p sz f X = .ok (V sz X, u)) :
  dV Tryz.prog 136 [.agg p.c, I f, bI X] (.gN [bI (pM V start sz X), I 0]) := by
 refine aIR (c := 0) ?_
 have ho := aIS hX.1 hs.1
 have he := aF6 hp hsz f hf X hX.1.2 (fun F hF => by rw [hX.1.1]; exact hl F hF)
 rw [qQ, show zB (.ok (V sz X, u)) = (V sz X, (u : Int), 0) from rfl] at he
 have hpl : (pM V start sz X).length = start.length := by simp [pM]
 rw [aC.aN] at he ⊢
 refine qD 52 aIT aUL aUM mix Tryz.func136 rfl (by kernel_rfl) (by simp) fun h => ?_
 simp -dsimp -implicitDefEqProofs only [go_sem, ↓reduceIte, Tryz.f136]
 first | refine aG.mk (ho) ?_ | refine aE.mk (ho) ?_ | refine aG.a8 (ho) ?_ | refine aE.mk (a6.cK (ho)) ?_
 simp -dsimp -implicitDefEqProofs only [go_sem, ↓reduceIte, Tryz.f136]
 first | refine aG.mk (he) ?_ | refine aE.mk (he) ?_ | refine aG.a8 (he) ?_ | refine aE.mk (a6.cK (he)) ?_
 simp -dsimp -implicitDefEqProofs only [go_sem, ↓reduceIte, Tryz.f136]
 refine ⟨Nat.zero_lt_one, fun _ => ?_⟩
 refine bX (keep := aIT) (ib := aUL) (mk := aUM) mix (by kernel_rfl) (fun x : Nat × LLx => [(2, bI X), (11, eK 1 x.1 x.2.1), (29, bI (V sz X)), (30, I (V sz X).length), (31, I x.1)]) (fun x => rX x.2) (fun x => x.1 ≤ start.length ∧ xW h ((pM V start sz X).take x.1) x.2) (fun x => start.length - x.1) (0, none, [], h) ⟨by simp [b8, bJ, eK], aB.le_refl _, Nat.zero_le _, xW.init _⟩ ?_
 rintro ⟨k, op, es, g⟩ ⟨hk, H⟩
 simp only at hk H ⊢
 have hvl := hV.1
 rcases Nat.lt_or_ge k start.length with hlt | hge
 ·have ev := hV.get (i := k) hlt
  have ex := hX.1.get (i := k) hlt
  have x0 := hX.2 k hlt
  have exz := bR (l := X.getD k []) (i := 0) (by rw [ex.2.1]; exact hsz.1)
  rw [x0] at exz
  have exl := ex.2.1
  have hy : (pM V start sz X).take (k + 1) = (pM V start sz X).take k ++ [kF (start.getD k 0) ((V sz X).getD k []) sz] := by
   rw [List.take_succ_eq_append_getElem (by omega)]; simp [pM]
  have hlk : ((pM V start sz X).take k).length = k := by rw [List.length_take]; omega
  have nM := H.len
  simp only [hlk] at nM
  have hi := aGM ((V sz X).getD k []) (by rw [ev.2.1]; exact hsz) ev.2.2
  rw [ev.2.1] at hi
  have hst : (kF 0 ((V sz X).getD k []) sz).set 0 (start.getD k 0) = kF (start.getD k 0) ((V sz X).getD k []) sz := rfl
  have hc := qP 0 ((V sz X).getD k []) hsz.1
  have es0 : (kF 0 ((V sz X).getD k []) sz)[0]? = some 0 := rfl
  have hrow := pC I (kF 0 ((V sz X).getD k []) sz) 0 (start.getD k 0)
  rw [hst] at hrow
  cases op with
  |none =>
   obtain ⟨h1, rfl, rfl⟩ := H.nil
   obtain rfl : k = 0 := by rw [← hlk, h1]; rfl
   simp -dsimp -implicitDefEqProofs only [go_sem, ↓reduceIte, Tryz.f136, hvl, hlt, ev.1, a7, rX, aR]
   refine aG.wn0 hi ?_
   rintro r l g ⟨y, oy, rfl, rfl⟩ wn
   rcases oy.xF with ⟨_, q⟩ | ⟨m, rfl⟩
   ·rw [q] at hc; simp at hc; omega
   rw [OV.j9]
   rw [OV.dI, hU, fV] at wn
   obtain ⟨zm, rfl⟩ := wn.rT
   simp -dsimp -implicitDefEqProofs only [go_sem, ↓reduceIte, Tryz.f136, hvl, hlt, ev.1, ex.1, exz, hc, exl, hX.1.1, Int.toNat_natCast, show Int.toNat 0 = 0 from rfl, es0]
   rw [hrow, aK]
   refine ⟨by omega, by omega, Nat.zero_lt_one, Nat.zero_lt_one, Nat.zero_lt_one, fun b ⟨b1, _, b2⟩ => ?_⟩
   obtain ⟨x', e', H', L'⟩ := H.fin (m := m) (b := b) (s := kF (start.getD 0 0) ((V sz X).getD 0 []) sz) (qP _ _ hsz.1) zm b2 b1 (aB.le_refl _)
   refine ⟨(1, x'), ⟨by simp only [e']; rfl, IntWalk.i64_in _ (by omega)⟩, L', ⟨hlt, by simp only; rw [hy]; exact H'⟩, by simp only; omega⟩
  |some n =>
   simp -dsimp -implicitDefEqProofs only [go_sem, ↓reduceIte, Tryz.f136, hvl, hlt, ev.1, aT, rX, aL, fX, nM]
   refine aG.wn1 hi H.2.2 ?_
   rintro r l g' ⟨y, oy, rfl, rfl⟩ wn zn
   rcases oy.xF with ⟨_, q⟩ | ⟨m, rfl⟩
   ·rw [q] at hc; simp at hc; omega
   rw [OV.j9]
   rw [OV.dI, hU, fV] at wn
   obtain ⟨zm, rfl⟩ := wn.rT
   have gX : ¬ m = n := fun e => by rw [e, aH] at zn; cases zn
   have nK : ¬ n = m := Ne.symm gX
   have cY : (m = n) = False := eq_false gX
   have cZ : (n = m) = False := eq_false nK
   simp -dsimp -implicitDefEqProofs only [go_sem, ↓reduceIte, Tryz.f136, hvl, hlt, ev.1, ex.1, exz, hc, exl, hX.1.1, Int.toNat_natCast, show Int.toNat 0 = 0 from rfl, cY, cZ, aF, fX, nM, es0]
   rw [hrow]
   refine ⟨by omega, by omega, Nat.zero_lt_one, Nat.zero_lt_one, Nat.zero_lt_one, Nat.le_refl _, by omega, by omega, fun b ⟨bm, bn, _, bz⟩ => ?_⟩
   rw [show List.take k (OV.cells es) = OV.cells es from nM ▸ oC es]
   refine ⟨(k + 1, some b, es ++ [oI m (kF (start.getD k 0) ((V sz X).getD k []) sz)], a5 g m (l7 (kF (start.getD k 0) ((V sz X).getD k []) sz))), ⟨rfl, IntWalk.i64_in _ (by omega)⟩, ?_, ⟨hlt, by simp only; rw [hy]; exact H.snoc (kF (start.getD k 0) ((V sz X).getD k []) sz) zm bz bm⟩, by simp only; omega⟩
   show (rX (some b, es ++ [oI m (kF (start.getD k 0) ((V sz X).getD k []) sz)], a5 g m (l7 (kF (start.getD k 0) ((V sz X).getD k []) sz)))).le _
   rw [rX.snoc, show List.length (kF (start.getD k 0) ((V sz X).getD k []) sz) = _ from qP _ _ hsz.1]
   exact zR H.2.2 gX bn (fun q hq => by simp only [c8, if_neg hq]; (repeat' split) <;> first | rfl | contradiction)
 ·have hk' : k = start.length := by omega
  subst hk'
  simp -dsimp -implicitDefEqProofs only [go_sem, ↓reduceIte, Tryz.f136, hvl, Nat.lt_irrefl, Int.lt_irrefl]
  rw [List.take_of_length_le (by omega)] at H
  obtain ⟨y, hy, hv, hw⟩ := H.done
  rw [hpl] at hv
  exact ⟨_, _, _, aV _ _, ⟨y, hy, by rw [hv], rfl⟩, hw⟩
theorem aYC {p : aC} (hp : p.ok) {sz : Nat} (hsz : 1 ≤ sz ∧ sz ≤ 1048576) (f : Int) (hf : 0 ≤ f ∧ f < p.aJ.length) {n : Nat} (hn : 1 ≤ n) {X : List (List Int)} (hX : eS sz n X) (hl : ∀ F, p.aJ[f.toNat]? = some F → (n : Int) = F.aX) {c : Int} (qQ : xU p sz f X = .error c) :
  dV Tryz.prog 136 [.agg p.c, I f, bI X] (.gN [bI [], I c]) := by
 have ho := aIS hX hn
 have he := aF6 hp hsz f hf X hX.2 (fun F hF => by rw [hX.1]; exact hl F hF)
 have hc := y8 p sz f X c qQ
 rw [qQ, show zB (.error c) = ([], 0, c) from rfl] at he
 rw [aC.aN] at he ⊢
 refine lO 52 aIT aUL aUM mix Tryz.func136 rfl (by kernel_rfl) (by simp) fun h => ?_
 simp -dsimp -implicitDefEqProofs only [go_sem, ↓reduceIte, Tryz.f136]
 first | refine aG.mk (ho) ?_ | refine aE.mk (ho) ?_ | refine aG.a8 (ho) ?_ | refine aE.mk (a6.cK (ho)) ?_
 simp -dsimp -implicitDefEqProofs only [go_sem, ↓reduceIte, Tryz.f136]
 first | refine aG.mk (he) ?_ | refine aE.mk (he) ?_ | refine aG.a8 (he) ?_ | refine aE.mk (a6.cK (he)) ?_
 simp -dsimp -implicitDefEqProofs only [go_sem, ↓reduceIte, Tryz.f136]
 exact ⟨fun _ => Shift.of (Sub.gN (.cons (Sub.nil 1 false) (.cons (.refl _) .nil))) (aB.le_refl _), fun q => absurd q (by omega)⟩
@[go_sem] def aIU : List Nat := [0, 1, 2, 3, 4, 8, 9, 10, 11, 12, 17, 18, 19, 28]
theorem bCP {p : aC} (hp : p.ok) {sz : Nat} (hsz : 1 ≤ sz ∧ sz ≤ 1048576) (f : Int) (hf : 0 ≤ f ∧ f < p.aJ.length) {start : List Int} (ns : dP start) (hs : 1 ≤ start.length ∧ start.length ≤ 1048576) (hl : ∀ F, p.aJ[f.toNat]? = some F → (start.length : Int) = F.aX) {V : Nat → List (List Int) → List (List Int)} {u : Nat} (hV : VF start V) (qQ : ∀ X, St start sz X → xU p sz f X = .ok (V sz X, u)) :
  dV Tryz.prog 57 [.agg p.c, I f, ints start, I ((sz : Int) - 1)] (.gN [bI (itR V start sz sz), I 0]) := by
 have hp' := fun X hX => a3F hp hsz f hf hs (X := X) hX hl (hV.ser sz X hsz.1 hX) (qQ X hX)
 have hx := aNM (aAS start (by omega) hsz)
 have e1 : IntKind.i64.wrap ((sz : Int) - 1 + 1) = (sz : Int) := by rw [IntWalk.i64_in _ (by omega)]; omega
 rw [aC.aN] at hp' ⊢
 refine dS 33 aIU aDC bD mix Tryz.func57 rfl (by kernel_rfl) (by simp) fun h => ?_
 simp -dsimp -implicitDefEqProofs only [go_sem, ↓reduceIte, Tryz.f57]
 first | refine aG.mk (hx) ?_ | refine aE.mk (hx) ?_ | refine aG.a8 (hx) ?_ | refine aE.mk (a6.cK (hx)) ?_
 simp -dsimp -implicitDefEqProofs only [go_sem, ↓reduceIte, Tryz.f57, e1]
 refine oU (keep := aIU) (ib := aDC) (mk := bD) mix (by kernel_rfl) (fun k : Nat => [(1, I f), (4, .ip 1 [[dB 3 aP.c p.aJ]] 0 0), (10, bI (itR V start sz k)), (17, I sz), (18, I k)]) (fun k => k ≤ sz) (fun k => sz - k) 0 ⟨by simp [b8, bJ, itR], Nat.zero_le _⟩ ?_
 intro k hk
 rcases Nat.lt_or_ge k sz with hlt | hge
 ·simp -dsimp -implicitDefEqProofs only [go_sem, ↓reduceIte, Tryz.f57, hlt]
  first | refine aG.mk (hp' _ (uG V ns hsz.1 k)) ?_ | refine aE.mk (hp' _ (uG V ns hsz.1 k)) ?_ | refine aG.a8 (hp' _ (uG V ns hsz.1 k)) ?_ | refine aE.mk (a6.cK (hp' _ (uG V ns hsz.1 k))) ?_
  simp -dsimp -implicitDefEqProofs only [go_sem, ↓reduceIte, Tryz.f57]
  exact ⟨k + 1, ⟨rfl, IntWalk.i64_in _ (by omega)⟩, hlt, by omega⟩
 ·obtain rfl : k = sz := by omega
  simp -dsimp -implicitDefEqProofs only [go_sem, ↓reduceIte, Tryz.f57, Nat.lt_irrefl, Int.lt_irrefl]
theorem a84 {p : aC} (hp : p.ok) {sz : Nat} (hsz : 1 ≤ sz ∧ sz ≤ 1048576) (f : Int) (hf : 0 ≤ f ∧ f < p.aJ.length) {start : List Int} (ns : dP start) (hs : 1 ≤ start.length ∧ start.length ≤ 1048576) (hl : ∀ F, p.aJ[f.toNat]? = some F → (start.length : Int) = F.aX) {c : Int} (qQ : xU p sz f (l8 start sz) = .error c) :
  dV Tryz.prog 57 [.agg p.c, I f, ints start, I ((sz : Int) - 1)] (.gN [bI [], I c]) := by
 have hp' := aYC hp hsz f hf hs.1 (aIO ns hsz.1).1 hl qQ
 have hx := aNM (aAS start (by omega) hsz)
 have e1 : IntKind.i64.wrap ((sz : Int) - 1 + 1) = (sz : Int) := by rw [IntWalk.i64_in _ (by omega)]; omega
 have hc := y8 p sz f _ c qQ
 rw [aC.aN] at hp' ⊢
 refine lO 33 aIU aDC bD mix Tryz.func57 rfl (by kernel_rfl) (by simp) fun h => ?_
 simp -dsimp -implicitDefEqProofs only [go_sem, ↓reduceIte, Tryz.f57]
 first | refine aG.mk (hx) ?_ | refine aE.mk (hx) ?_ | refine aG.a8 (hx) ?_ | refine aE.mk (a6.cK (hx)) ?_
 simp -dsimp -implicitDefEqProofs only [go_sem, ↓reduceIte, Tryz.f57, e1]
 refine bX (keep := aIU) (ib := aDC) (mk := bD) mix (by kernel_rfl) (fun k : Nat => [(1, I f), (4, .ip 1 [[dB 3 aP.c p.aJ]] 0 0), (10, bI (l8 start sz)), (17, I sz), (18, I 0)]) (fun k => h) (fun k => True) (fun k => 0) 0 ⟨by simp [b8, bJ], aB.le_refl _, trivial⟩ ?_
 intro k _
 simp -dsimp -implicitDefEqProofs only [go_sem, ↓reduceIte, Tryz.f57, show (0 : Int) < sz by omega]
 first | refine aG.mk (hp') ?_ | refine aE.mk (hp') ?_ | refine aG.a8 (hp') ?_ | refine aE.mk (a6.cK (hp')) ?_
 simp -dsimp -implicitDefEqProofs only [go_sem, ↓reduceIte, Tryz.f57]
 exact ⟨fun _ => Shift.of (Sub.gN (.cons (Sub.nil 1 false) (.cons (.refl _) .nil))) (aB.le_refl _), fun q => absurd q (by omega)⟩
abbrev aAT (l : List (List (List Int))) : aD := dB 1 (fun s => [bI s]) l
@[go_sem] def aP4 : List Nat := [0, 1, 4, 5, 7, 9, 10, 11, 12]
@[go_sem] def a0M : List Nat := [8, 20]
theorem aUN (rg : List (List Int)) (L : List Int) (hr : ∀ r ∈ L, 0 ≤ r ∧ r < rg.length) (hl : L.length ≤ 1048576) : dV Tryz.prog 140 [bI rg, ints L] (bI (L.map fun r => rg.getD r.toNat [])) := by
 refine lO 24 aP4 a0M bD mix Tryz.func140 rfl (by kernel_rfl) (by simp) fun h => ?_
 simp -dsimp -implicitDefEqProofs only [go_sem, ↓reduceIte, Tryz.f140]
 refine ⟨Nat.zero_lt_one, fun _ => ?_⟩
 refine bX (keep := aP4) (ib := a0M) (mk := bD) mix (by kernel_rfl) (fun x : Nat × Option Nat => [(0, bI rg), (5, eK 1 ((L.map fun r => rg.getD r.toNat []).take x.1).length x.2), (9, ints L), (10, I L.length), (11, I x.1)]) (fun x => gQ h (.row 1 ((((L.map fun r => rg.getD r.toNat []).take x.1).map fun s => [ints s]).map (List.map .v))) x.2) (fun x => x.1 ≤ L.length ∧ eP h ((L.map fun r => rg.getD r.toNat []).take x.1) x.2) (fun x => L.length - x.1) (0, none) ⟨by simp [b8, bJ, eK], by simp only [aR]; exact aB.le_refl _, Nat.zero_le _, by simp [eP]⟩ ?_
 rintro ⟨k, o⟩ ⟨hk, hos⟩
 simp only at hk hos ⊢
 rcases Nat.lt_or_ge k L.length with hlt | hge
 ·have ea : L[k]? = some L[k] := List.getElem?_eq_getElem hlt
  have hr0 := hr _ (List.getElem_mem hlt)
  have eg : rg[L[k].toNat]? = some (rg.getD L[k].toNat []) := fO (by omega)
  have hy : (L.map fun r => rg.getD r.toNat []).take (k + 1) = (L.map fun r => rg.getD r.toNat []).take k ++ [rg.getD L[k].toNat []] := by
   rw [List.take_succ_eq_append_getElem (by rw [List.length_map]; exact hlt), List.getElem_map]
  have hlk : ((L.map fun r => rg.getD r.toNat []).take k).length = k := by rw [List.length_take, List.length_map]; omega
  generalize rg.getD L[k].toNat [] = s at *
  cases o with
  |none =>
   rw [a9] at hos
   rw [hos] at hy ⊢
   simp -dsimp -implicitDefEqProofs only [go_sem, ↓reduceIte, Tryz.f140, a7, aR, hlt, ea, eg]
   refine ⟨hr0.1, hr0.2, ?_⟩
   repeat' (with_reducible first | intro _ | refine And.intro ?_ ?_)
   all_goals try (first | omega | decide)
   rename_i b hb
   refine ⟨(k + 1, some b), ?_⟩
   simp only [hy]
   refine ⟨⟨rfl, ?_⟩, aB.le_refl _, ⟨by omega, hb⟩, by omega⟩
   rw [IntWalk.i64_in _ (by omega)]; rfl
  |some n =>
   rw [aU] at hos
   simp -dsimp -implicitDefEqProofs only [go_sem, ↓reduceIte, Tryz.f140, aT, aL, hlt, ea, eg]
   refine ⟨hr0.1, hr0.2, ?_⟩
   repeat' (with_reducible first | intro _ | refine And.intro ?_ ?_)
   all_goals try (first | omega | decide | exact Nat.le_refl _)
   rename_i b hb
   refine ⟨(k + 1, some b), ?_⟩
   simp only [hy, aL, aT, aU]
   refine ⟨⟨by rw [List.length_append]; rfl, ?_⟩, ?_, ⟨by omega, hb.2⟩, by omega⟩
   ·rw [IntWalk.i64_in _ (by omega)]; rfl
   ·rw [← eN]; exact kO hos
 ·have hk' : k = L.length := by omega
  subst hk'
  rw [List.take_of_length_le (by rw [List.length_map]; exact Nat.le_refl _)] at hos ⊢
  cases o with
  |none =>
   rw [a9] at hos
   simp -dsimp -implicitDefEqProofs only [go_sem, ↓reduceIte, Tryz.f140, a7, aR, Nat.lt_irrefl, Int.lt_irrefl]
   rw [hos]
   exact Shift.of (Sub.loose _ _ _) (aB.le_refl _)
  |some n =>
   rw [aU] at hos
   simp -dsimp -implicitDefEqProofs only [go_sem, ↓reduceIte, Tryz.f140, aT, aL, Nat.lt_irrefl, Int.lt_irrefl]
   exact lK _ hos (aB.le_refl _) (List.length_map _).symm
def aIV (code : List aZ) (L : List Int) (rg : List (List Int)) (sz inp o : Nat) : List (List Int) := byK code (pK code rg (qM L (vR L.length o) (List.replicate code.length (rU sz)) L.length) code.length 0) sz inp code.length
def sX (code : List aZ) (L : List Int) (rg : List (List Int)) (sz inp : Nat) : List (List (List Int)) := (List.range L.length).map fun o => aIV code L rg sz inp o
@[go_sem] def aUO : List Nat := [0, 1, 2, 3, 6, 7, 8, 9, 10, 11, 12, 13, 23, 34, 39, 40, 41]
@[go_sem] def a85 : List Nat := [3, 36, 51, 55]
@[go_sem] def a86 : Marks := fun id => match id with | 1 => ([8, 9], (.op 0 (.op 1 (.op 2 (.op 3 (.op 4 (.op 5 (.op 6 (.op 7 (.op 8 (.op 9 (.op 10 .nil))))))))))), []) | 4 => ([0], (.op 1 (.op 2 (.op 3 (.op 0 (.op 4 (.op 5 (.op 6 (.op 7 (.op 8 (.op 9 .nil)))))))))), []) | 11 => ([1, 2, 5, 13], (.op 0 (.op 3 (.op 4 (.op 7 (.op 8 (.op 1 (.op 2 (.op 5 (.op 6 (.op 9 (.op 10 (.op 11 (.op 12 (.op 13 (.op 14 .nil))))))))))))))), []) | _ => ([], .nil, [])
theorem a3G {p : aC} (hp : p.ok) (hps : p.s ≤ 4194304) {sz : Nat} (hsz : 1 ≤ sz ∧ sz ≤ 1048576) (f : Int) (hf : 0 ≤ f ∧ f < p.aJ.length) {start L : List Int} {F : b5} {u : Nat} (ns : dP start) (hs : 1 ≤ start.length ∧ start.length ≤ 12) (hl : ∀ F, p.aJ[f.toNat]? = some F → (start.length : Int) = F.aX) (hr : vT p f start = .ok ((L, F), u)) (T : aGL p f start L F u) {X : List (List Int)} (hX : St start sz X) :
  dV Tryz.prog 58 [.agg p.c, I f, bI X] (.gN [bI (L.map fun r => l6 sz X F.code r.toNat), aAT (sX F.code L (jB sz X F.code F.code.length) sz start.length), I 0]) := by
 have hfi := a2S X (by rw [hX.1.1]; omega) (fun s hs' => by rw [(hX.1.2 s hs').1]; exact hsz.1)
 have hfe : X.map (·.getD 0 0) = start := by
  apply List.ext_getElem
  ·rw [List.length_map, hX.1.1]
  ·intro i a b
   have := hX.2 i b
   rw [List.length_map] at a
   have h1 : X[i] = X.getD i [] := by rw [List.getD_eq_getElem?_getD, List.getElem?_eq_getElem a]; rfl
   have h2 : start[i] = start.getD i 0 := by rw [List.getD_eq_getElem?_getD, List.getElem?_eq_getElem b]; rfl
   rw [List.getElem_map, h1, h2]; exact this
 rw [hfe] at hfi
 have hrc := a20 hp hps f hf start ns (by omega) hl
 rw [show pD p f start = (⟨start.length, F.code, F.guards, L⟩, 0) by rw [pD, hr]] at hrc
 have ho := aIS hX.1 hs.1
 have hrg := aQ7 ⟨start.length, F.code, F.guards, L⟩ hsz T.ins T.cap X hX.1.2 (by rw [hX.1.1]) (T.nz sz X hsz.1 hX)
 have hsr : eS sz F.code.length (jB sz X F.code F.code.length) := ⟨jR _ _ _ _, fun s hs' => by
  obtain ⟨i, hi, rfl⟩ := List.mem_iff_getElem.1 hs'
  rw [jR] at hi
  have h := rJ (sz := sz) T.ins hX.1.2 (by rw [hX.1.1]) i hi
  rwa [l6, List.getD_eq_getElem?_getD, List.getElem?_eq_getElem (by rw [jR]; exact hi)] at h⟩
 have a87 : L.length ≤ 100 := by
  have := T.ok.lens
  simp only at this
  omega
 simp only [aC.aN, kL.aN] at hrc hrg ⊢
 refine lO 63 aUO a85 a86 mix Tryz.func58 rfl (by kernel_rfl) (by simp) fun h => ?_
 simp -dsimp -implicitDefEqProofs only [go_sem, ↓reduceIte, Tryz.f58]
 first | refine aG.mk (hfi) ?_ | refine aE.mk (hfi) ?_ | refine aG.a8 (hfi) ?_ | refine aE.mk (a6.cK (hfi)) ?_
 simp -dsimp -implicitDefEqProofs only [go_sem, ↓reduceIte, Tryz.f58]
 first | refine aG.mk (hrc) ?_ | refine aE.mk (hrc) ?_ | refine aG.a8 (hrc) ?_ | refine aE.mk (a6.cK (hrc)) ?_
 simp -dsimp -implicitDefEqProofs only [go_sem, ↓reduceIte, Tryz.f58]
 refine fun n zn => ?_
 try simp -dsimp -implicitDefEqProofs only [go_sem, ↓reduceIte, Tryz.f58, aK]
 first | refine aG.mk (ho) ?_ | refine aE.mk (ho) ?_ | refine aG.a8 (ho) ?_ | refine aE.mk (a6.cK (ho)) ?_
 simp -dsimp -implicitDefEqProofs only [go_sem, ↓reduceIte, Tryz.f58]
 first | refine aG.mk (hrg) ?_ | refine aE.mk (hrg) ?_ | refine aG.a8 (hrg) ?_ | refine aE.mk (a6.cK (hrg)) ?_
 simp -dsimp -implicitDefEqProofs only [go_sem, ↓reduceIte, Tryz.f58]
 refine ⟨Nat.zero_lt_one, fun _ => ?_⟩
 rw [aK]
 generalize hgB : a5 h n (.row 4 [[.v (I start.length), .v (dB 4 aZ.c F.code), .v (dB 2 dX.c F.guards), .v (ints L)]]) = hB
 have hBn : hB n = some (.row 4 [[.v (I start.length), .v (dB 4 aZ.c F.code), .v (dB 2 dX.c F.guards), .v (ints L)]]) := by rw [← hgB, aH]
 have hBl : h.le hB := by rw [← hgB]; exact aB.bF zn (aB.le_refl _)
 generalize hgr : jB sz X F.code F.code.length = rg at *
 have hsl : (sX F.code L rg sz start.length).length = L.length := by simp [sX]
 have hpk := aUN rg L (fun r hr' => by have := T.outs r hr'; rw [hsr.1]; exact this) (by omega)
 have hpe : (L.map fun r => rg.getD r.toNat []) = L.map fun r => l6 sz X F.code r.toNat := List.map_congr_left fun r _ => by rw [l6, hgr]
 rw [hpe] at hpk
 refine bX (keep := aUO) (ib := a85) (mk := a86) mix (by kernel_rfl) (fun x : Nat × Option Nat => [(2, bI X), (9, .op n 4 0 0), (11, bI rg), (12, eK 1 ((sX F.code L rg sz start.length).take x.1).length x.2), (39, I L.length), (40, I x.1)]) (fun x => gQ hB (.row 1 ((((sX F.code L rg sz start.length).take x.1).map fun s => [bI s]).map (List.map .v))) x.2) (fun x => x.1 ≤ L.length ∧ eP hB ((sX F.code L rg sz start.length).take x.1) x.2) (fun x => L.length - x.1) (0, none) ⟨by simp [b8, bJ, eK], by simp only [aR]; exact aB.le_refl _, Nat.zero_le _, by simp [eP]⟩ ?_
 rintro ⟨k, o⟩ ⟨hk, hos⟩
 simp only at hk hos ⊢
 rcases Nat.lt_or_ge k L.length with hlt | hge
 ·have hy : (sX F.code L rg sz start.length).take (k + 1) = (sX F.code L rg sz start.length).take k ++ [aIV F.code L rg sz start.length k] := by
   rw [List.take_succ_eq_append_getElem (by omega)]; simp [sX]
  have hlk : ((sX F.code L rg sz start.length).take k).length = k := by rw [List.length_take]; omega
  have hu := a76 L.length k (by omega) hlt
  have had := aT0 ⟨start.length, F.code, F.guards, L⟩ hsz T.ins ⟨T.one, T.cap⟩ rg hsr (vR L.length k) (by simp [vR]) (uE _ _) a87 T.outs
  have hA0 := vV (sz := sz) hsz.1 T.outs (uE L.length k) L.length (Nat.le_refl _)
  have hA := qN hsz T.ins hsr hA0 F.code.length 0 rfl
  have hby := aT6 ⟨start.length, F.code, F.guards, L⟩ hsz rfl hs.2 T.ins ⟨T.one, T.cap⟩ _ hA
  have heB : aIV F.code L rg sz start.length k = byK F.code (pK F.code rg (qM L (vR L.length k) (List.replicate F.code.length (rU sz)) L.length) F.code.length 0) sz start.length F.code.length := rfl
  simp only [kL.aN] at had hby
  rw [← heB] at hby
  generalize aIV F.code L rg sz start.length k = s at *
  cases o with
  |none =>
   rw [a9] at hos
   rw [hos] at hy ⊢
   simp -dsimp -implicitDefEqProofs only [go_sem, ↓reduceIte, Tryz.f58, a7, aR, hlt, hBn]
   refine ⟨by decide, by decide, ?_⟩
   first | refine aG.mk (hu) ?_ | refine aE.mk (hu) ?_ | refine aG.a8 (hu) ?_ | refine aE.mk (a6.cK (hu)) ?_
   simp -dsimp -implicitDefEqProofs only [go_sem, ↓reduceIte, Tryz.f58]
   first | refine aG.mk (had) ?_ | refine aE.mk (had) ?_ | refine aG.a8 (had) ?_ | refine aE.mk (a6.cK (had)) ?_
   simp -dsimp -implicitDefEqProofs only [go_sem, ↓reduceIte, Tryz.f58]
   first | refine aG.mk (hby) ?_ | refine aE.mk (hby) ?_ | refine aG.a8 (hby) ?_ | refine aE.mk (a6.cK (hby)) ?_
   simp -dsimp -implicitDefEqProofs only [go_sem, ↓reduceIte, Tryz.f58]
   repeat' (with_reducible first | intro _ | refine And.intro ?_ ?_)
   all_goals try (first | omega | decide)
   rename_i b hb
   refine ⟨(k + 1, some b), ?_⟩
   simp only [hy]
   refine ⟨⟨rfl, ?_⟩, aB.le_refl _, ⟨by omega, hb⟩, by omega⟩
   rw [IntWalk.i64_in _ (by omega)]; rfl
  |some m =>
   rw [aU] at hos
   have gX : ¬ m = n := fun e => by rw [e, hBn] at hos; cases hos
   have nK : ¬ n = m := Ne.symm gX
   have cY : (m = n) = False := eq_false gX
   have cZ : (n = m) = False := eq_false nK
   simp -dsimp -implicitDefEqProofs only [go_sem, ↓reduceIte, Tryz.f58, aT, aL, hlt, cY, cZ, aF, hBn]
   refine ⟨by decide, by decide, ?_⟩
   first | refine aG.mk (hu) ?_ | refine aE.mk (hu) ?_ | refine aG.a8 (hu) ?_ | refine aE.mk (a6.cK (hu)) ?_
   simp -dsimp -implicitDefEqProofs only [go_sem, ↓reduceIte, Tryz.f58]
   first | refine aG.mk (had) ?_ | refine aE.mk (had) ?_ | refine aG.a8 (had) ?_ | refine aE.mk (a6.cK (had)) ?_
   simp -dsimp -implicitDefEqProofs only [go_sem, ↓reduceIte, Tryz.f58]
   first | refine aG.mk (hby) ?_ | refine aE.mk (hby) ?_ | refine aG.a8 (hby) ?_ | refine aE.mk (a6.cK (hby)) ?_
   simp -dsimp -implicitDefEqProofs only [go_sem, ↓reduceIte, Tryz.f58]
   repeat' (with_reducible first | intro _ | refine And.intro ?_ ?_)
   all_goals try (first | omega | decide | exact Nat.le_refl _)
   rename_i b hb
   refine ⟨(k + 1, some b), ?_⟩
   simp only [hy, aL, aT, aU]
   refine ⟨⟨by rw [List.length_append]; rfl, ?_⟩, ?_, ⟨by omega, hb.2⟩, by omega⟩
   ·rw [IntWalk.i64_in _ (by omega)]; rfl
   ·rw [← eN]; exact kO hos
 ·have hk' : k = L.length := by omega
  subst hk'
  rw [List.take_of_length_le (by omega)] at hos ⊢
  cases o with
  |none =>
   rw [a9] at hos
   simp -dsimp -implicitDefEqProofs only [go_sem, ↓reduceIte, Tryz.f58, a7, aR, Nat.lt_irrefl, Int.lt_irrefl, hBn]
   first | refine aG.mk (hpk) ?_ | refine aE.mk (hpk) ?_ | refine aG.a8 (hpk) ?_ | refine aE.mk (a6.cK (hpk)) ?_
   simp -dsimp -implicitDefEqProofs only [go_sem, ↓reduceIte, Tryz.f58]
   rw [hos]
   exact Shift.of (Sub.gN (.cons (.refl _) (.cons (Sub.loose _ _ _) (.cons (.refl _) .nil)))) hBl
  |some m =>
   rw [aU] at hos
   have gX : ¬ m = n := fun e => by rw [e, hBn] at hos; cases hos
   have nK : ¬ n = m := Ne.symm gX
   have cY : (m = n) = False := eq_false gX
   have cZ : (n = m) = False := eq_false nK
   simp -dsimp -implicitDefEqProofs only [go_sem, ↓reduceIte, Tryz.f58, aT, aL, Nat.lt_irrefl, Int.lt_irrefl, cY, cZ, aF, hBn]
   first | refine aG.mk (hpk) ?_ | refine aE.mk (hpk) ?_ | refine aG.a8 (hpk) ?_ | refine aE.mk (a6.cK (hpk)) ?_
   simp -dsimp -implicitDefEqProofs only [go_sem, ↓reduceIte, Tryz.f58]
   refine Shift.trans (gK ((sX F.code L rg sz start.length).map fun s => [bI s]) hos (aB.le_refl _) (by simp [eF, e8]) ?_) (bQ hBl)
   simp [aD.c9, kH, List.take_of_length_le]
theorem aUP {h : aB} {n : Nat} {l : List Int} {k : Nat} (hk : k = l.length) (hn : h n = some (l7 l)) : View h (.os n 1 0 k) (ints l) := by
 have h1 := View.ovD (h := h) (d := ints l) (OV.sl n 1 (l.map fun x => [.v (I x)])) (OS.lA (c := fun n => [I n]) (R := oP I) (fun _ _ q => rO q) (OS.mk (aDD l))) (fun p hp => by
  rw [OV.dI, hU, fV, List.mem_singleton] at hp
  rw [hp]; exact hn)
 rw [OV.j9] at h1
 rwa [hk]
theorem xW.keep {h : aB} {L : List (List Int)} {x : LLx} (H : xW h L x) {q : Nat} {o : bL} (hq : h q = some o) : rX x q = some o := by
 obtain ⟨op, es, g⟩ := x
 have h1 : g q = some o := H.2.1.keep hq
 cases op with
 |none => exact h1
 |some n =>
  have h2 : g n = none := H.2.2
  have h3 : ¬ q = n := fun e => by rw [e, h2] at h1; cases h1
  rw [rX, aL, aF _ _ _ _ h3]; exact h1
theorem xW.ne {x : LLx} {m : Nat} (h : rX x m = none) : ¬ x.1 = some m := fun e => by
 obtain ⟨op, es, g⟩ := x
 simp only at e
 subst e
 rw [rX, aL, aH] at h; cases h
theorem aRD {op : Option Nat} {m k j : Nat} (es : List (List aD)) (h : ¬ op = some m) : (eK 1 k op).c9 m es = eK 1 k op ∧ eF m 1 j (eK 1 k op) = true := by
 cases op with
 |none => exact ⟨rfl, rfl⟩
 |some n =>
  have hn : ¬ n = m := fun e => h (by rw [e])
  simp [eK, aD.c9, eF, hn]
theorem aNN {h g : aB} {Z : List (List Int)} {n sz b : Nat} {es : List (List OV)} (hes : OR (oL I) Z es) (hnw : iM h (OV.bM [OV.sl b 1 es]) g) (hZ : eS sz n Z) (hsz : 1 ≤ sz) {k : Nat} (hk : k < n) :
  ∃ m, es[k]? = some (oI m (Z.getD k [])) ∧ (OV.cells es)[k]? = some [.v (.os m 1 0 sz)] ∧ g m = some (l7 (Z.getD k [])) ∧ ¬ m = b := by
 have hz := hZ.get hk
 obtain ⟨e, he, y, rfl, hy⟩ := hes.a7U k _ hz.1
 rcases hy.xF with ⟨rfl, h0⟩ | ⟨m, rfl⟩
 ·have := hz.2.1
  rw [h0] at this; simp at this; omega
 ·have hr := hnw.a75 he
  refine ⟨m, he, ?_, hr.1, hr.2⟩
  have := aQV he
  rw [this, List.map_singleton, OV.j9, hz.2.1]
theorem aUQ {code : List aZ} {L : List Int} {rg : List (List Int)} {sz inp i : Nat} (hi : i < L.length) : (sX code L rg sz inp)[i]? = some (aIV code L rg sz inp i) := by
 rw [sX, List.getElem?_map, List.getElem?_range hi]; rfl
theorem aUR {code : List aZ} {L : List Int} {rg : List (List Int)} {sz inp i : Nat} (hsz : 1 ≤ sz ∧ sz ≤ 1048576) (hins : ∀ i c, code[i]? = some c → bE inp i c) (hsr : eS sz code.length rg) (ho : ∀ r ∈ L, 0 ≤ r ∧ r < code.length) : eS sz inp (aIV code L rg sz inp i) :=
 zJ hins (qN hsz hins hsr (vV hsz.1 ho (uE L.length i) L.length (Nat.le_refl _)) code.length 0 rfl) code.length (Nat.le_refl _)
theorem aLG {sz : Nat} {X : List (List Int)} {code : List aZ} {inp : Nat} (hins : ∀ i c, code[i]? = some c → bE inp i c) (hX : eS sz inp X) : eS sz code.length (jB sz X code code.length) := ⟨jR _ _ _ _, fun s hs' => by
 obtain ⟨i, hi, rfl⟩ := List.mem_iff_getElem.1 hs'
 rw [jR] at hi
 have h := rJ (sz := sz) hins hX.2 (by rw [hX.1]) i hi
 rwa [l6, List.getD_eq_getElem?_getD, List.getElem?_eq_getElem (by rw [jR]; exact hi)] at h⟩
@[go_sem] def aAU : List Nat := [0, 1, 2, 3, 4, 5, 10, 11, 12, 13, 14, 16, 17, 18, 19, 20, 21, 22, 23, 24, 33, 44, 55, 60, 61, 62, 64, 65, 66, 67, 74, 75, 76, 77]
@[go_sem] def aRE : List Nat := [5, 30, 63, 100]
theorem aNO {p : aC} (hp : p.ok) (hps : p.s ≤ 4194304) {sz : Nat} (hsz : 1 ≤ sz ∧ sz ≤ 13) (f : Int) (hf : 0 ≤ f ∧ f < p.aJ.length) {start dir L : List Int} {F : b5} {u : Nat} (ns : dP start) (nd : dP dir) (hs : 1 ≤ start.length ∧ start.length ≤ 12) (hd : dir.length = start.length) (hl : ∀ F, p.aJ[f.toNat]? = some F → (start.length : Int) = F.aX) (hll : L.length = start.length)
  (hst : fT p f [start, dir] ((sz : Int) - 1) = 0) (hr : vT p f start = .ok ((L, F), u)) (T : aGL p f start L F u) :
  rQ Tryz.prog 11 [.agg p.c, I f, ints start, ints dir, I ((sz : Int) - 1)] (QS (OS (oL I) 1 (fS (Vz F.code L (fS (Vy F.code L) start)) dir (sz - 1))) (fun y => .gN [y, I 0])) := by
 have hsz' : 1 ≤ sz ∧ sz ≤ 1048576 := by omega
 have hvy := a0J T hll
 have hvz := a0K T hll hd ns
 have h1 := aIQ p f hps [start, dir] (by simp) ((sz : Int) - 1)
 rw [hst] at h1
 have h2 := bCP hp hsz' f hf ns (by omega) hl hvy (fun X hX => T.ev sz X hsz.1 hX)
 have hy := aUD ns hvy (o := sz - 1) (n := sz) (by omega)
 rw [Nat.sub_add_cancel hsz.1] at hy
 rw [hy] at h2
 have hYst := gE (Vy F.code L) ns (sz - 1)
 rw [Nat.sub_add_cancel hsz.1] at hYst
 have h3 := a3G hp hps hsz' f hf ns hs hl hr T hYst
 generalize hY : fS (Vy F.code L) start (sz - 1) = Y at *
 have hsr := aLG T.ins hYst.1
 generalize hrg : jB sz Y F.code F.code.length = rg at *
 have hss := fun i => aUR (i := i) hsz' T.ins hsr T.outs
 have hzl := aUD nd hvz (o := sz - 1) (n := sz - 1) (by omega)
 rw [Nat.sub_add_cancel hsz.1] at hzl
 generalize hV : Vz F.code L (fS (Vy F.code L) start) = V at *
 have hsum : ∀ i, i < L.length → ∀ Z, eS sz start.length Z → aBT sz (aIV F.code L rg sz start.length i) Z start.length = (V sz Z).getD i [] := fun i hi Z hZ => by
  have := aX4 hsz' T.ins T.outs hsr hZ hi
  rw [← hV, Vz, vZ hi, hY]
  rw [aIV, this]
  congr 1
  funext k
  rw [← hrg]; rfl
 rw [← hzl]
 have hsl : (sX F.code L rg sz start.length).length = L.length := by simp [sX]
 have e1 : IntKind.i64.wrap ((sz : Int) - 1 + 1) = (sz : Int) := by rw [IntWalk.i64_in _ (by omega)]; omega
 rw [aC.aN] at h1 h2 h3 ⊢
 refine qD 106 aAU aRE bD mix Tryz.func11 rfl (by kernel_rfl) (by simp) fun h => ?_
 simp -dsimp -implicitDefEqProofs only [go_sem, ↓reduceIte, Tryz.f11]
 refine ⟨by decide, by decide, aG.mk (dV.sub (.cons (.refl _) (.cons (.refl _) (.cons (.refl _) (.cons (Sub.loose 1 [[ints start], [ints dir]] true) .nil)))) h1) ?_⟩
 simp -dsimp -implicitDefEqProofs only [go_sem, ↓reduceIte, Tryz.f11]
 first | refine aG.mk (h2) ?_ | refine aE.mk (h2) ?_ | refine aG.a8 (h2) ?_ | refine aE.mk (a6.cK (h2)) ?_
 simp -dsimp -implicitDefEqProofs only [go_sem, ↓reduceIte, Tryz.f11]
 first | refine aG.mk (h3) ?_ | refine aE.mk (h3) ?_ | refine aG.a8 (h3) ?_ | refine aE.mk (a6.cK (h3)) ?_
 simp -dsimp -implicitDefEqProofs only [go_sem, ↓reduceIte, Tryz.f11]
 refine aG.wn0 (aAS dir (by omega) hsz') ?_
 rintro r l g ⟨y, oy, rfl, rfl⟩ wn
 simp -dsimp -implicitDefEqProofs only [go_sem, ↓reduceIte, Tryz.f11]
 refine bX (keep := aAU) (ib := aRE) (mk := bD) mix (by kernel_rfl) (fun x : Nat × OV × aB => [(3, ints dir), (4, I ((sz : Int) - 1)), (16, aAT (sX F.code L rg sz start.length)), (17, x.2.1.val), (60, I ((sz : Int) - 1)), (61, I x.1)]) (fun x => x.2.2) (fun x => x.1 ≤ sz - 1 ∧ OS (oL I) 1 (itR V dir sz x.1) x.2.1 ∧ iM h x.2.1.rows x.2.2) (fun x => sz - 1 - x.1) (0, y, g) ⟨by simp [b8, bJ], aB.le_refl _, Nat.zero_le _, oy, wn⟩ ?_
 rintro ⟨n, z, g⟩ ⟨hn, hz, hnw⟩
 simp only at hn hz hnw ⊢
 have hZ := (uG V nd hsz.1 n).1
 rw [hd] at hZ
 rcases Nat.lt_or_ge n (sz - 1) with hlt | hge
 ·have hni : (n : Int) < (sz : Int) - 1 := by omega
  have hpl : (pM V dir sz (itR V dir sz n)).length = L.length := by rw [hll, ← hd]; simp [pM]
  have hnx : itR V dir sz (n + 1) = pM V dir sz (itR V dir sz n) := rfl
  generalize itR V dir sz n = Z at *
  rcases hz with ⟨rfl, h0⟩ | ⟨bz, es, rfl, hes⟩
  ·rw [h0] at hZ; have := hZ.1; simp at this; omega
  have hnw' : iM h (OV.bM [OV.sl bz 1 es]) g := by rw [OV.cT, OV.eC, List.append_nil]; exact hnw
  have hgb : g bz = some (.row 1 (OV.cells es)) := hnw'.aKI []
  have hel : es.length = start.length := by rw [← hes.length, hZ.1]
  simp -dsimp -implicitDefEqProofs only [go_sem, ↓reduceIte, Tryz.f11, hni, OV.nD]
  refine ⟨Nat.zero_lt_one, fun _ => ?_⟩
  refine bX (keep := aAU) (ib := aRE) (mk := bD) mix (by kernel_rfl) (fun x : Nat × LLx => [(3, ints dir), (4, I ((sz : Int) - 1)), (16, aAT (sX F.code L rg sz start.length)), (17, .os bz 1 0 es.length), (18, eK 1 x.1 x.2.1), (60, I ((sz : Int) - 1)), (61, I n), (64, aAT (sX F.code L rg sz start.length)), (65, I L.length), (66, I x.1)]) (fun x => rX x.2) (fun x => x.1 ≤ L.length ∧ xW g ((pM V dir sz Z).take x.1) x.2) (fun x => L.length - x.1) (0, none, [], g) ⟨by simp [b8, bJ, eK, hsl], aB.le_refl _, Nat.zero_le _, xW.init _⟩ ?_
  rintro ⟨k, op, es2, g2⟩ ⟨hk, H⟩
  simp only at hk H ⊢
  rcases Nat.lt_or_ge k L.length with jO | aFF
  ·have ea := aUQ (code := F.code) (rg := rg) (sz := sz) (inp := start.length) jO
   have hrow := hss k
   have hsm := hsum k jO Z hZ
   generalize aIV F.code L rg sz start.length k = row at *
   have hrl := hrow.1
   generalize hG : rX (op, es2, g2) = G
   have hkG := fun {q o} => H.keep (q := q) (o := o)
   rw [hG] at hkG
   simp -dsimp -implicitDefEqProofs only [go_sem, ↓reduceIte, Tryz.f11, jO, ea, e1, Int.toNat_natCast, hrl]
   refine ⟨by omega, Nat.zero_lt_one, Nat.le_refl _, by omega, by omega, fun m zm _ => ?_⟩
   have hz0 : (List.replicate sz [aD.int .i64 0]).map (List.map Cell.v) = ((rU sz).map fun n => [I n]).map (List.map .v) := rD sz
   rw [hz0]
   have aNP : ¬ bz = m := fun e => by have := hkG hgb; rw [e, zm] at this; cases this
   have aUS : ¬ m = bz := Ne.symm aNP
   have aNQ : (bz = m) = False := eq_false aNP
   have aNR : (m = bz) = False := eq_false aUS
   have hov := aRD (k := k) (j := sz) ((rU sz).map fun n => [I n]) (xW.ne (x := (op, es2, g2)) (m := m) (by rw [hG]; exact zm))
   have hzz : (rU sz).length = sz := (xM sz).1
   have hzs : (aD.os m 1 0 sz).c9 m ((rU sz).map fun n => [I n]) = ints (rU sz) := by simp [aD.c9, rU]
   have hzt : List.take sz ((rU sz).map fun n => [I n]) = (rU sz).map fun n => [I n] := List.take_of_length_le (by simp [hzz])
   refine yH.aS0 m zm (by simp [eF, aNQ, aNR, hov.2, hzz]) ?_
   refine bX (keep := aAU) (ib := aRE) (mk := bD) mix (by kernel_rfl) (fun x : Nat => [(3, ints dir), (4, I ((sz : Int) - 1)), (16, aAT (sX F.code L rg sz start.length)), (17, .os bz 1 0 es.length), (18, eK 1 k op), (19, I k), (20, bI row), (21, ints (aBT sz row Z x)), (60, I ((sz : Int) - 1)), (61, I n), (64, aAT (sX F.code L rg sz start.length)), (65, I L.length), (66, I k), (74, bI row), (75, I start.length), (76, I x)]) (fun _ => G) (fun x => x ≤ start.length) (fun x => start.length - x) 0 ⟨by simp [b8, bJ, aBT, hzs, hov.1, aD.c9, aNQ, aNR, hzz, hzt], aB.bF zm (aB.le_refl _), Nat.zero_le _⟩ ?_
   ·intro x hx
    rcases Nat.lt_or_ge x start.length with aUT | bFZ
    ·obtain ⟨nk, q1, q2, q3, q4⟩ := aNN hes hnw' hZ hsz.1 aUT
     have ez := hrow.get aUT
     have hzk := (hZ.get aUT).2
     have hS := vY (Z := Z) hrow x hx
     simp -dsimp -implicitDefEqProofs only [go_sem, ↓reduceIte, Tryz.f11, aUT, ez.1, hkG hgb, fX, hel, q2]
     refine ⟨by omega, aG.a80 (aKS (row.getD x []) (Z.getD x []) (by rw [hzk.1, ez.2.1]) (by rw [ez.2.1]; omega) ez.2.2 hzk.2) (eJ.cons (View.same _ _) (eJ.cons (aUP hzk.1.symm (hkG q3)) eJ.nil)) ?_⟩
     simp -dsimp -implicitDefEqProofs only [go_sem, ↓reduceIte, Tryz.f11]
     have hm := cW (Z.getD x []) ez.2
     first | refine aG.mk (aD4 (aBT sz row Z x) (mulL (row.getD x []) (Z.getD x [])) (by rw [hm.1, hS.1]) (by rw [hS.1]; omega) hS.2 hm.2) ?_ | refine aE.mk (aD4 (aBT sz row Z x) (mulL (row.getD x []) (Z.getD x [])) (by rw [hm.1, hS.1]) (by rw [hS.1]; omega) hS.2 hm.2) ?_ | refine aG.a8 (aD4 (aBT sz row Z x) (mulL (row.getD x []) (Z.getD x [])) (by rw [hm.1, hS.1]) (by rw [hS.1]; omega) hS.2 hm.2) ?_ | refine aE.mk (a6.cK (aD4 (aBT sz row Z x) (mulL (row.getD x []) (Z.getD x [])) (by rw [hm.1, hS.1]) (by rw [hS.1]; omega) hS.2 hm.2)) ?_
     simp -dsimp -implicitDefEqProofs only [go_sem, ↓reduceIte, Tryz.f11]
     exact ⟨x + 1, ⟨by rw [hel], rfl, IntWalk.i64_in _ (by omega)⟩, aUT, by omega⟩
    ·obtain rfl : x = start.length := by omega
     simp -dsimp -implicitDefEqProofs only [go_sem, ↓reduceIte, Tryz.f11, Nat.lt_irrefl, Int.lt_irrefl]
     have ev : bC sz ((V sz Z).getD k []) := by rw [← hsm]; exact vY (Z := Z) hrow _ (Nat.le_refl _)
     rw [hsm]
     have hi := aGM ((V sz Z).getD k []) (by rw [ev.1]; exact hsz') ev.2
     rw [ev.1] at hi
     have hy : (pM V dir sz Z).take (k + 1) = (pM V dir sz Z).take k ++ [kF (dir.getD k 0) ((V sz Z).getD k []) sz] := by
      rw [List.take_succ_eq_append_getElem (by omega)]; simp [pM]
     have hlk : ((pM V dir sz Z).take k).length = k := by rw [List.length_take]; omega
     have nM := H.len
     simp only [hlk] at nM
     have bCQ : (kF 0 ((V sz Z).getD k []) sz).set 0 (dir.getD k 0) = kF (dir.getD k 0) ((V sz Z).getD k []) sz := rfl
     have hc := qP 0 ((V sz Z).getD k []) hsz.1
     have es0 : (kF 0 ((V sz Z).getD k []) sz)[0]? = some 0 := rfl
     have hrw := pC I (kF 0 ((V sz Z).getD k []) sz) 0 (dir.getD k 0)
     rw [bCQ] at hrw
     have edk : dir[k]? = some (dir.getD k 0) := bR (by omega)
     have hdl : k < dir.length := by omega
     clear hzs hov zm hzt hkG aNQ aNR aNP aUS
     subst hG
     cases op with
     |none =>
      obtain ⟨h1, rfl, rfl⟩ := H.nil
      obtain rfl : k = 0 := by rw [← hlk, h1]; rfl
      simp -dsimp -implicitDefEqProofs only [go_sem, ↓reduceIte, Tryz.f11, a7, rX, aR]
      refine aG.wn0 hi ?_
      rintro r l g2 ⟨y, oy, rfl, rfl⟩ wn
      rcases oy.xF with ⟨_, q⟩ | ⟨m, rfl⟩
      ·rw [q] at hc; simp at hc; omega
      rw [OV.j9]
      rw [OV.dI, hU, fV] at wn
      obtain ⟨zm, rfl⟩ := wn.rT
      simp -dsimp -implicitDefEqProofs only [go_sem, ↓reduceIte, Tryz.f11, hc, edk, hdl, Int.toNat_natCast, show Int.toNat 0 = 0 from rfl, es0, a7]
      rw [hrw, aK]
      refine ⟨by omega, Nat.zero_lt_one, Nat.zero_lt_one, Nat.zero_lt_one, fun b ⟨b1, _, b2⟩ => ?_⟩
      have hlt := jO
      obtain ⟨x', e', H', L'⟩ := H.fin (m := m) (b := b) (s := kF (dir.getD 0 0) ((V sz Z).getD 0 []) sz) (qP _ _ hsz.1) zm b2 b1 (aB.le_refl _)
      refine ⟨(1, x'), ⟨by simp only [e']; rfl, IntWalk.i64_in _ (by omega)⟩, L', ⟨hlt, by simp only; rw [hy]; exact H'⟩, by simp only; omega⟩
     |some n2 =>
      simp -dsimp -implicitDefEqProofs only [go_sem, ↓reduceIte, Tryz.f11, aT, rX, aL, fX, nM]
      refine aG.wn1 hi H.2.2 ?_
      rintro r l g' ⟨y, oy, rfl, rfl⟩ wn zn
      rcases oy.xF with ⟨_, q⟩ | ⟨m, rfl⟩
      ·rw [q] at hc; simp at hc; omega
      rw [OV.j9]
      rw [OV.dI, hU, fV] at wn
      obtain ⟨zm, rfl⟩ := wn.rT
      have aNS : ¬ m = n2 := fun e => by rw [e, aH] at zn; cases zn
      have a3H : ¬ n2 = m := Ne.symm aNS
      have a3I : (m = n2) = False := eq_false aNS
      have a3J : (n2 = m) = False := eq_false a3H
      simp -dsimp -implicitDefEqProofs only [go_sem, ↓reduceIte, Tryz.f11, hc, edk, hdl, Int.toNat_natCast, show Int.toNat 0 = 0 from rfl, a3I, a3J, aF, fX, nM, es0, aT]
      rw [hrw]
      refine ⟨by omega, Nat.zero_lt_one, Nat.zero_lt_one, Nat.zero_lt_one, Nat.le_refl _, by omega, by omega, fun b ⟨bm, bn, _, bz⟩ => ?_⟩
      rw [show List.take k (OV.cells es2) = OV.cells es2 from nM ▸ oC es2]
      have hlt := jO
      have gX := aNS
      refine ⟨(k + 1, some b, es2 ++ [oI m (kF (dir.getD k 0) ((V sz Z).getD k []) sz)], a5 g2 m (l7 (kF (dir.getD k 0) ((V sz Z).getD k []) sz))), ⟨rfl, IntWalk.i64_in _ (by omega)⟩, ?_, ⟨hlt, by simp only; rw [hy]; exact H.snoc _ zm bz bm⟩, by simp only; omega⟩
      show (rX (some b, es2 ++ [oI m (kF (dir.getD k 0) ((V sz Z).getD k []) sz)], a5 g2 m (l7 (kF (dir.getD k 0) ((V sz Z).getD k []) sz)))).le _
      rw [rX.snoc, show List.length (kF (dir.getD k 0) ((V sz Z).getD k []) sz) = _ from qP _ _ hsz.1]
      exact zR H.2.2 gX bn (fun q hq => by simp only [c8, if_neg hq]; (repeat' split) <;> first | rfl | contradiction)
  ·have hk' : k = L.length := by omega
   subst hk'
   simp -dsimp -implicitDefEqProofs only [go_sem, ↓reduceIte, Tryz.f11, Nat.lt_irrefl, Int.lt_irrefl]
   rw [List.take_of_length_le (by omega)] at H
   obtain ⟨z', hz', hv, hw⟩ := H.done
   rw [hpl] at hv
   exact ⟨(n + 1, z', kI (rX (op, es2, g2)) (aY (OV.sl bz 1 es).rows)), ⟨hv.symm, IntWalk.i64_in _ (by omega)⟩, aSR _ _, ⟨hlt, by simp only; rw [hnx]; exact hz', (hnw.append hw).drop⟩, by simp only; omega⟩
 ·have hn' : n = sz - 1 := by omega
  subst hn'
  simp -dsimp -implicitDefEqProofs only [go_sem, ↓reduceIte, Tryz.f11, show ¬ (((sz - 1 : Nat) : Int) < (sz : Int) - 1) by omega]
  exact ⟨_, _, _, aV _ _, ⟨z, hz, rfl, rfl⟩, hnw⟩
noncomputable def gV (p : aC) (f : Int) (start dir : List Int) (order : Int) : List (List Int) × Int :=
 if fT p f [start, dir] order = 0 then (match vT p f start with
  | .ok ((L, F), _) => (fS (Vz F.code L (fS (Vy F.code L) start)) dir order.toNat, 0)
  | .error c => ([], c))
 else ([], fT p f [start, dir] order)
structure aYD (p : aC) (f : Int) (start : List Int) (order : Int) : Prop where
 ok : p.ok
 fn : 0 ≤ f ∧ f < p.aJ.length
 ns : dP start
 hs : 1 ≤ start.length ∧ start.length ≤ 12
 par : ∀ F, p.aJ[f.toNat]? = some F → (start.length : Int) = F.aX
 outs : (p.outs f).length = start.length
 ord : 0 ≤ order ∧ order ≤ 12
theorem xR {p : aC} {f : Int} {start : List Int} {ls : List (List Int)} {order : Int} (h : fT p f (start :: ls) order = 0) : aYD p f start order ∧ ∀ l ∈ ls, l.length = start.length ∧ dP l := by
 by_cases h0 : gL p f l9 = 0
 ·obtain ⟨h1, h2, F, ef, e1, e2, e3⟩ := xQ h0
  have e : fT p f (start :: ls) order = if (∀ l ∈ start :: ls, (l.length : Int) = F.aX ∧ dP l) ∧ 0 ≤ order ∧ order ≤ 12 then 0 else 2 := by rw [fT, if_pos h0, e1]
  rw [e] at h
  have e4 : (1 ≤ F.aX ∧ F.aX ≤ 12) ∧ (F.aM.length : Int) = F.aX := by
   unfold l9 at e3
   rw [Bool.and_eq_true] at e3
   exact ⟨of_decide_eq_true e3.1, of_decide_eq_true e3.2⟩
  by_cases hh : (∀ l ∈ start :: ls, (l.length : Int) = F.aX ∧ dP l) ∧ 0 ≤ order ∧ order ≤ 12
  ·have hst := hh.1 start List.mem_cons_self
   refine ⟨⟨h1, h2, hst.2, by omega, fun G hG => by rw [ef] at hG; cases hG; exact hst.1, by rw [e2]; omega, hh.2⟩, fun l hl => ?_⟩
   have := hh.1 l (List.mem_cons_of_mem _ hl)
   exact ⟨by omega, this.2⟩
  ·rw [if_neg hh] at h; cases h
 ·rw [fT, if_neg h0] at h; exact absurd h h0
theorem a0N : ∀ {l : List Int} {X : List (List Int)}, X.length = l.length → (∀ s ∈ X, 1 ≤ s.length) → (∀ i, i < l.length → (X.getD i []).getD 0 0 = l.getD i 0) → eR (l.map fun n => [n]) X
 | [], [], _, _, _ => trivial
 |a :: l, [] :: X, _, h, _ => by have := h [] List.mem_cons_self; simp at this
 |a :: l, (b :: s) :: X, hl, h, h0 => by
  have h1 := h0 0 (by simp)
  simp at h1
  subst h1
  exact ⟨.inr ⟨b, [], s, rfl, rfl⟩, a0N (by simpa using hl) (fun s hs => h s (List.mem_cons_of_mem _ hs)) fun i hi => by simpa using h0 (i + 1) (by simp; omega)⟩
 | [], _ :: _, h, _, _ => by simp at h
 | _ :: _, [], h, _, _ => by simp at h
theorem aP5 {p : aC} (hp : p.ok) {f : Int} (hf : 0 ≤ f ∧ f < p.aJ.length) {start : List Int} (ns : dP start) (hl : ∀ F, p.aJ[f.toNat]? = some F → (start.length : Int) = F.aX) {c : Int} (h : vT p f start = .error c) :
  xU p 1 f (start.map fun n => [n]) = .error c ∧ ∀ sz X, 1 ≤ sz → St start sz X → xU p sz f X = .error c := by
 have h1 := (aHX hp f hf start ns hl).2
 rw [h] at h1
 cases hX : xU p 1 f (start.map fun n => [n]) with
 |ok q => rw [hX] at h1; exact h1.elim
 |error d =>
  rw [hX] at h1
  have h2 : c = d := h1
  subst h2
  refine ⟨rfl, fun sz X hsz hX' => ?_⟩
  have h3 := aTA p 0 (sz - 1) f _ _ (a0N hX'.1.1 (fun s hs => by rw [(hX'.1.2 s hs).1]; exact hsz) hX'.2)
  rw [Nat.sub_add_cancel hsz, hX] at h3
  cases hY : xU p sz f X with
  |ok q => rw [hY] at h3; exact h3.elim
  |error d =>
   rw [hY] at h3
   have h4 : c = d := h3
   rw [h4]
theorem aLH {h : aB} (c : Int) : ∃ r1 g l, Shift (.gN [.bO, I c]) h r1 g ∧ QS (OS (oL I) 1 []) (fun y => .gN [y, I c]) r1 l ∧ iM h l g :=
 ⟨.gN [(OV.nil 1).val, I c], h, [], Shift.of (Sub.gN (.cons (Sub.nil 1 true) (.cons (.refl _) .nil))) (aB.le_refl _), ⟨_, OS.nil, rfl, by rw [OV.nC]⟩, iM.nil h⟩
theorem aBK (p : aC) (hps : p.s ≤ 4194304) (f : Int) (start dir : List Int) (order : Int) : rQ Tryz.prog 11 [.agg p.c, I f, ints start, ints dir, I order] (QS (OS (oL I) 1 (gV p f start dir order).1) (fun y => .gN [y, I (gV p f start dir order).2])) := by
 by_cases h0 : fT p f [start, dir] order = 0
 ·obtain ⟨S, hd⟩ := xR h0
  have hd := hd dir List.mem_cons_self
  obtain ⟨o, rfl⟩ : ∃ o : Nat, order = ((o + 1 : Nat) : Int) - 1 := ⟨order.toNat, by have := S.ord; omega⟩
  have ho := S.ord
  cases hX : vT p f start with
  |ok q =>
   obtain ⟨⟨L, F⟩, u⟩ := q
   have T := a0I S.ok S.fn S.ns S.hs.2 S.par hX
   have e : gV p f start dir (((o + 1 : Nat) : Int) - 1) = (fS (Vz F.code L (fS (Vy F.code L) start)) dir (o + 1 - 1), 0) := by
    rw [gV, if_pos h0, hX, show (((o + 1 : Nat) : Int) - 1).toNat = o + 1 - 1 by omega]
   rw [e]
   exact aNO S.ok hps (by omega) f S.fn S.ns hd.2 S.hs hd.1 S.par (by rw [T.ll, S.outs]) h0 hX T
  |error c =>
   have e : gV p f start dir (((o + 1 : Nat) : Int) - 1) = ([], c) := by rw [gV, if_pos h0, hX]
   have he := (aP5 S.ok S.fn S.ns S.par hX).2 (o + 1) _ (by omega) (aIO S.ns (by omega))
   have h2 := a84 S.ok (sz := o + 1) (by omega) f S.fn S.ns (by have := S.hs; omega) S.par he
   have hc := y8 p (o + 1) f _ c he
   have h1 := aIQ p f hps [start, dir] (by simp) (((o + 1 : Nat) : Int) - 1)
   rw [h0] at h1
   rw [e]
   generalize (((o + 1 : Nat) : Int) - 1) = order at *
   rw [aC.aN] at h1 h2 ⊢
   refine qD 106 aAU aRE bD mix Tryz.func11 rfl (by kernel_rfl) (by simp) fun h => ?_
   simp -dsimp -implicitDefEqProofs only [go_sem, ↓reduceIte, Tryz.f11]
   refine ⟨by decide, by decide, aG.mk (dV.sub (.cons (.refl _) (.cons (.refl _) (.cons (.refl _) (.cons (Sub.loose 1 [[ints start], [ints dir]] true) .nil)))) h1) ?_⟩
   simp -dsimp -implicitDefEqProofs only [go_sem, ↓reduceIte, Tryz.f11]
   first | refine aG.mk (h2) ?_ | refine aE.mk (h2) ?_ | refine aG.a8 (h2) ?_ | refine aE.mk (a6.cK (h2)) ?_
   simp -dsimp -implicitDefEqProofs only [go_sem, ↓reduceIte, Tryz.f11]
   exact ⟨fun _ => aLH _, fun q => absurd q (by omega)⟩
 ·have e : gV p f start dir order = ([], fT p f [start, dir] order) := by rw [gV, if_neg h0]
  have h1 := aIQ p f hps [start, dir] (by simp) order
  rw [e]
  generalize fT p f [start, dir] order = c at *
  rw [aC.aN] at h1 ⊢
  refine qD 106 aAU aRE bD mix Tryz.func11 rfl (by kernel_rfl) (by simp) fun h => ?_
  simp -dsimp -implicitDefEqProofs only [go_sem, ↓reduceIte, Tryz.f11]
  refine ⟨by decide, by decide, aG.mk (dV.sub (.cons (.refl _) (.cons (.refl _) (.cons (.refl _) (.cons (Sub.loose 1 [[ints start], [ints dir]] true) .nil)))) h1) ?_⟩
  simp -dsimp -implicitDefEqProofs only [go_sem, ↓reduceIte, Tryz.f11, h0]
  exact aLH _
def aLI (m a b : Int) : Bool := decide (1 ≤ a ∧ a ≤ m) && decide (b = a)
theorem aUU (p : aC) (hps : p.s ≤ 4194304) (f : Int) : dV Tryz.prog 161 [.ip 1 [p.c] 0 0, I f] (I (if p.ok then if 0 ≤ f ∧ f ≤ (p.aJ.length : Int) - 1 then 0 else 2 else 1)) := by
 have hok := a7Z p hps
 have hl := p.aF2
 rw [aC.aN] at hok ⊢
 refine dS 17 aXK bT bD mix Tryz.func161 rfl (by kernel_rfl) (by simp) fun h => ?_
 simp -dsimp -implicitDefEqProofs only [go_sem, ↓reduceIte, Tryz.f161]
 refine aG.mk hok ?_
 simp -dsimp -implicitDefEqProofs only [go_sem, ↓reduceIte, Tryz.f161]
 rw [IntWalk.i64_in ((p.aJ.length : Int) - 1) (by omega)]
 refine ⟨fun q => by rw [if_neg q], fun q _ => ?_⟩
 first | refine aG.mk (eD f 0 ((p.aJ.length : Int) - 1)) ?_ | refine aE.mk (eD f 0 ((p.aJ.length : Int) - 1)) ?_ | refine aG.a8 (eD f 0 ((p.aJ.length : Int) - 1)) ?_ | refine aE.mk (a6.cK (eD f 0 ((p.aJ.length : Int) - 1))) ?_
 simp -dsimp -implicitDefEqProofs only [go_sem, ↓reduceIte, Tryz.f161]
 refine ⟨fun h => by rw [if_pos q, if_neg h], fun h => by rw [if_pos q, if_pos h]⟩
@[go_sem] def aIW : List Nat := [0, 1, 2, 6, 7, 45]
@[go_sem] def aUV : Marks := fun id => match id with | 2 => ([12, 23], (.op 0 (.op 1 (.op 2 (.op 3 (.op 4 (.op 5 (.op 6 (.op 7 (.op 8 (.op 9 (.op 10 (.op 11 (.op 12 (.op 13 (.op 14 (.op 15 (.op 16 (.op 17 (.op 18 (.op 19 (.op 20 (.op 21 (.op 22 (.op 24 (.op 25 (.op 26 (.op 27 (.op 28 (.op 29 (.op 30 (.op 31 (.op 23 (.op 32 (.op 33 (.op 34 .nil))))))))))))))))))))))))))))))))))), []) | _ => ([], .nil, [])
theorem a3K (p : aC) (hps : p.s ≤ 4194304) (f m : Int) : dV Tryz.prog 106 [.ip 1 [p.c] 0 0, I f, I m] (I (gL p f (aLI m))) := by
 have hif := aUU p hps f
 by_cases h1 : p.ok
 ·by_cases h2 : 0 ≤ f ∧ f ≤ (p.aJ.length : Int) - 1
  ·obtain ⟨F, ef, e1, e2, e3⟩ := aET h1 h2
   rw [if_pos h1, if_pos h2] at hif
   simp only [aC.aN] at hif ⊢
   rw [e3]
   refine dS 47 aIW bT aUV mix Tryz.func106 rfl (by kernel_rfl) (by simp) fun h => ?_
   simp -dsimp -implicitDefEqProofs only [go_sem, ↓reduceIte, Tryz.f106]
   first | refine aG.mk (hif) ?_ | refine aE.mk (hif) ?_ | refine aG.a8 (hif) ?_ | refine aE.mk (a6.cK (hif)) ?_
   simp -dsimp -implicitDefEqProofs only [go_sem, ↓reduceIte, Tryz.f106, ef, aP.aN]
   refine ⟨h2.1, by omega, ?_⟩
   first | refine aG.mk (eD F.aX 1 m) ?_ | refine aE.mk (eD F.aX 1 m) ?_ | refine aG.a8 (eD F.aX 1 m) ?_ | refine aE.mk (a6.cK (eD F.aX 1 m)) ?_
   simp -dsimp -implicitDefEqProofs only [go_sem, ↓reduceIte, Tryz.f106, ef, aP.aN]
   refine ⟨fun q => ⟨h2.1, by omega, h2.1, by omega, fun _ => ⟨fun q2 => ?_, fun q2 => ?_⟩⟩, fun q => ?_⟩
   ·rw [aLI, decide_eq_false q2, Bool.and_false]; rfl
   ·rw [aLI, decide_eq_true q2, decide_eq_true q]; rfl
   ·rw [aLI, decide_eq_false q, Bool.false_and]; rfl
  ·rw [if_pos h1, if_neg h2] at hif
   have e : gL p f (aLI m) = 2 := by rw [gL, if_pos h1, if_neg h2]
   simp only [aC.aN] at hif ⊢
   refine dS 47 aIW bT aUV mix Tryz.func106 rfl (by kernel_rfl) (by simp) fun h => ?_
   simp -dsimp -implicitDefEqProofs only [go_sem, ↓reduceIte, Tryz.f106]
   first | refine aG.mk (hif) ?_ | refine aE.mk (hif) ?_ | refine aG.a8 (hif) ?_ | refine aE.mk (a6.cK (hif)) ?_
   simp -dsimp -implicitDefEqProofs only [go_sem, ↓reduceIte, Tryz.f106]
   rw [e]
 ·rw [if_neg h1] at hif
  have e : gL p f (aLI m) = 1 := by rw [gL, if_neg h1]
  simp only [aC.aN] at hif ⊢
  refine dS 47 aIW bT aUV mix Tryz.func106 rfl (by kernel_rfl) (by simp) fun h => ?_
  simp -dsimp -implicitDefEqProofs only [go_sem, ↓reduceIte, Tryz.f106]
  first | refine aG.mk (hif) ?_ | refine aE.mk (hif) ?_ | refine aG.a8 (hif) ?_ | refine aE.mk (a6.cK (hif)) ?_
  simp -dsimp -implicitDefEqProofs only [go_sem, ↓reduceIte, Tryz.f106]
  rw [e]
theorem oH (l : List Int) (n : Int) : dV Tryz.prog 48 [ints l, I n] (.bool (decide ((l.length : Int) = n ∧ dP l))) := by
 refine dS 13 aAI bT bD mix Tryz.func48 rfl (by kernel_rfl) (by simp) fun h => ?_
 simp -dsimp -implicitDefEqProofs only [go_sem, ↓reduceIte, Tryz.f48]
 refine fun _ => ⟨fun h => ?_, fun h => (decide_eq_false fun z => h z.1).symm⟩
 first | refine aG.mk (tQ l) ?_ | refine aE.mk (tQ l) ?_ | refine aG.a8 (tQ l) ?_ | refine aE.mk (a6.cK (tQ l)) ?_
 simp -dsimp -implicitDefEqProofs only [go_sem, ↓reduceIte, Tryz.f48]
 by_cases hn : dP l
 ·rw [decide_eq_true hn, decide_eq_true ⟨h, hn⟩]
 ·rw [decide_eq_false hn, decide_eq_false fun z => hn z.2]
@[go_sem] def aUW : List Nat := [0, 1, 2, 3, 8, 9, 32]
theorem aLJ (p : aC) (hps : p.s ≤ 4194304) (f : Int) (start : List Int) (order : Int) : dV Tryz.prog 47 [.ip 1 [p.c] 0 0, I f, ints start, I order] (I (fT p f [start] order)) := by
 have hif := a3K p hps f 12
 by_cases h0 : gL p f l9 = 0
 ·obtain ⟨h1, h2, F, ef, e1, e2, e3⟩ := xQ h0
  rw [show gL p f (aLI 12) = 0 from h0] at hif
  have e : fT p f [start] order = if ((start.length : Int) = F.aX ∧ dP start) ∧ 0 ≤ order ∧ order ≤ 12 then 0 else 2 := by rw [fT, if_pos h0, e1]; simp
  simp only [aC.aN] at hif ⊢
  refine dS 34 aUW bT bD mix Tryz.func47 rfl (by kernel_rfl) (by simp) fun h => ?_
  simp -dsimp -implicitDefEqProofs only [go_sem, ↓reduceIte, Tryz.f47]
  first | refine aG.mk (hif) ?_ | refine aE.mk (hif) ?_ | refine aG.a8 (hif) ?_ | refine aE.mk (a6.cK (hif)) ?_
  simp -dsimp -implicitDefEqProofs only [go_sem, ↓reduceIte, Tryz.f47, ef, aP.aN]
  refine ⟨h2.1, h2.2, ?_⟩
  first | refine aG.mk (oH start F.aX) ?_ | refine aE.mk (oH start F.aX) ?_ | refine aG.a8 (oH start F.aX) ?_ | refine aE.mk (a6.cK (oH start F.aX)) ?_
  simp -dsimp -implicitDefEqProofs only [go_sem, ↓reduceIte, Tryz.f47, ef, aP.aN]
  rw [e]
  refine ⟨fun q => ?_, fun q => by rw [if_neg fun z => q z.1]⟩
  first | refine aG.mk (eD order 0 12) ?_ | refine aE.mk (eD order 0 12) ?_ | refine aG.a8 (eD order 0 12) ?_ | refine aE.mk (a6.cK (eD order 0 12)) ?_
  simp -dsimp -implicitDefEqProofs only [go_sem, ↓reduceIte, Tryz.f47, ef, aP.aN]
  refine ⟨fun q2 => by rw [if_neg fun z => q2 z.2], fun q2 => by rw [if_pos ⟨q, q2⟩]⟩
 ·have e : fT p f [start] order = gL p f l9 := by rw [fT, if_neg h0]
  rw [show gL p f (aLI 12) = gL p f l9 from rfl] at hif
  generalize gL p f l9 = c at *
  simp only [aC.aN] at hif ⊢
  refine dS 34 aUW bT bD mix Tryz.func47 rfl (by kernel_rfl) (by simp) fun h => ?_
  simp -dsimp -implicitDefEqProofs only [go_sem, ↓reduceIte, Tryz.f47]
  first | refine aG.mk (hif) ?_ | refine aE.mk (hif) ?_ | refine aG.a8 (hif) ?_ | refine aE.mk (a6.cK (hif)) ?_
  simp -dsimp -implicitDefEqProofs only [go_sem, ↓reduceIte, Tryz.f47, h0]
  rw [e]
@[go_sem] def a88 : List Nat := [7, 22]
theorem aIX (Y : List (List Int)) {sz k : Nat} (hY : ∀ s ∈ Y, bC sz s) (hk : 1 ≤ k ∧ k ≤ sz) (hsz : sz ≤ 1048576) (hl : Y.length ≤ 1048576) : rQ Tryz.prog 53 [bI Y, I k] (QS (OS (oL I) 1 (Y.map fun s => s.take k))) := by
 have hel : (Y.map fun s => s.take k).length = Y.length := List.length_map _
 refine qD 25 aJ0 a88 bD mix Tryz.func53 rfl (by kernel_rfl) (by simp) fun h => ?_
 simp -dsimp -implicitDefEqProofs only [go_sem, ↓reduceIte, Tryz.f53]
 refine ⟨Nat.zero_lt_one, ?_⟩
 refine bX (keep := aJ0) (ib := a88) (mk := bD) mix (by kernel_rfl) (fun x : Nat × LLx => [(0, bI Y), (1, I k), (5, eK 1 x.1 x.2.1), (6, I x.1)]) (fun x => rX x.2) (fun x => x.1 ≤ Y.length ∧ xW h ((Y.map fun s => s.take k).take x.1) x.2) (fun x => Y.length - x.1) (0, none, [], h) ⟨by simp [b8, bJ, eK], aB.le_refl _, Nat.zero_le _, xW.init _⟩ ?_
 rintro ⟨j, op, es, g⟩ ⟨hj, H⟩
 simp only at hj H ⊢
 rcases Nat.lt_or_ge j Y.length with hlt | hge
 ·have ea : Y[j]? = some Y[j] := List.getElem?_eq_getElem hlt
  have hs := hY _ (List.getElem_mem hlt)
  have hsl := hs.1
  have hy : (Y.map fun s => s.take k).take (j + 1) = (Y.map fun s => s.take k).take j ++ [Y[j].take k] := by
   rw [List.take_succ_eq_append_getElem (by omega), List.getElem_map]
  have hlk : ((Y.map fun s => s.take k).take j).length = j := by rw [List.length_take]; omega
  have nM := H.len
  simp only [hlk] at nM
  have hown := aM0 (Y[j].take k) (by rw [List.length_take]; omega)
  have hc : (Y[j].take k).length = k := by rw [List.length_take]; omega
  cases op with
  |none =>
   obtain ⟨h1, rfl, rfl⟩ := H.nil
   obtain rfl : j = 0 := by rw [← hlk, h1]; rfl
   simp -dsimp -implicitDefEqProofs only [go_sem, ↓reduceIte, Tryz.f53, hlt, ea, a7, rX, aR, hsl]
   rw [← List.map_take]
   refine fun _ => ⟨by omega, hk.2, ?_⟩
   refine aG.wn0 (hown) ?_
   rintro r_ l_ g ⟨y_, oy_, rfl, rfl⟩ wn_
   rcases oy_.xF with ⟨_, q_⟩ | ⟨m, rfl⟩
   ·rw [q_] at hc; simp at hc; omega
   rw [OV.j9]
   rw [OV.dI, hU, fV] at wn_
   obtain ⟨zm, rfl⟩ := wn_.rT
   simp -dsimp -implicitDefEqProofs only [go_sem, ↓reduceIte, Tryz.f53, hc, a7]
   refine ⟨Nat.zero_lt_one, Nat.zero_lt_one, Nat.zero_lt_one, fun b ⟨b1, b2⟩ => ?_⟩
   obtain ⟨x', e', H', L'⟩ := H.fin (m := m) (b := b) (s := Y[0].take k) (hc) zm b2 b1 (aB.le_refl _)
   refine ⟨(1, x'), ⟨by simp only [e']; rfl, IntWalk.i64_in _ (by omega)⟩, L', ⟨hlt, by simp only; rw [hy]; exact H'⟩, by simp only; omega⟩
  |some n =>
   simp -dsimp -implicitDefEqProofs only [go_sem, ↓reduceIte, Tryz.f53, hlt, ea, aT, rX, aL, fX, nM, hsl]
   rw [← List.map_take]
   refine fun _ => ⟨by omega, hk.2, ?_⟩
   refine aG.wn1 (hown) H.2.2 ?_
   rintro r_ l_ g' ⟨y_, oy_, rfl, rfl⟩ wn_ zn
   rcases oy_.xF with ⟨_, q_⟩ | ⟨m, rfl⟩
   ·rw [q_] at hc; simp at hc; omega
   rw [OV.j9]
   rw [OV.dI, hU, fV] at wn_
   obtain ⟨zm, rfl⟩ := wn_.rT
   have gX : ¬ m = n := fun e => by rw [e, aH] at zn; cases zn
   have nK : ¬ n = m := Ne.symm gX
   have cY : (m = n) = False := eq_false gX
   have cZ : (n = m) = False := eq_false nK
   simp -dsimp -implicitDefEqProofs only [go_sem, ↓reduceIte, Tryz.f53, hc, cY, cZ, aF, fX, nM, aT]
   refine ⟨Nat.zero_lt_one, Nat.zero_lt_one, Nat.zero_lt_one, Nat.le_refl _, by omega, by omega, fun b ⟨bn, bm, bz⟩ => ?_⟩
   rw [show List.take j (OV.cells es) = OV.cells es from nM ▸ oC es]
   refine ⟨(j + 1, some b, es ++ [oI m (Y[j].take k)], a5 g m (l7 (Y[j].take k))), ⟨rfl, IntWalk.i64_in _ (by omega)⟩, ?_, ⟨hlt, by simp only; rw [hy]; exact H.snoc (Y[j].take k) zm bz bm⟩, by simp only; omega⟩
   show (rX (some b, es ++ [oI m (Y[j].take k)], a5 g m (l7 (Y[j].take k)))).le _
   rw [rX.snoc, show List.length (Y[j].take k) = _ from hc]
   exact zR H.2.2 gX bn (fun q hq => by simp only [c8, if_neg hq]; (repeat' split) <;> first | rfl | contradiction)
 ·have hk' : j = Y.length := by omega
  subst hk'
  simp -dsimp -implicitDefEqProofs only [go_sem, ↓reduceIte, Tryz.f53, Nat.lt_irrefl, Int.lt_irrefl]
  intro _
  rw [List.take_of_length_le (by omega)] at H
  obtain ⟨y, hy, hv, hw⟩ := H.done
  rw [hel] at hv
  exact ⟨_, _, _, aV _ _, ⟨y, hy, hv.symm, rfl⟩, hw⟩
@[go_sem] def aP6 : List Nat := [0, 1, 2, 6, 7, 8, 9, 10, 11, 19, 31, 39, 52, 59, 65, 78, 91, 104]
@[go_sem] def a0O : List Nat := [12, 29, 40, 115]
@[go_sem] def a0P : Marks := fun id => match id with | 10 => ([2, 4, 7, 9], (.op 0 (.op 1 (.op 5 (.op 6 (.op 2 (.op 3 (.op 4 (.op 7 (.op 8 (.op 9 (.op 10 (.op 11 .nil)))))))))))), []) | 16 => ([2, 4, 7, 9], (.op 0 (.op 1 (.op 5 (.op 6 (.op 2 (.op 3 (.op 4 (.op 7 (.op 8 (.op 9 (.op 10 (.op 11 .nil)))))))))))), []) | 18 => ([2, 4, 7, 9], (.op 0 (.op 1 (.op 5 (.op 6 (.op 2 (.op 3 (.op 4 (.op 7 (.op 8 (.op 9 (.op 10 (.op 11 .nil)))))))))))), []) | 20 => ([2, 4, 7, 9], (.op 0 (.op 1 (.op 5 (.op 6 (.op 2 (.op 3 (.op 4 (.op 7 (.op 8 (.op 9 (.op 10 (.op 11 .nil)))))))))))), []) | _ => ([], .nil, [])
theorem aRF (t : kL) {sz : Nat} (hsz : 1 ≤ sz ∧ sz ≤ 1048576) (hins : ∀ i c, t.aO[i]? = some c → bE t.jE i c) (hcl : t.aO.length ≤ 3200) (args : List (List Int)) (ha : ∀ s ∈ args, bC sz s) (hal : (args.length : Int) = t.jE)
  (hdiv : ∀ (i : Nat) (c : aZ), t.aO[i]? = some c → c.fM = 6 → ¬ (l6 sz args t.aO c.fB.toNat).getD 0 0 = 0) : dV Tryz.prog 127 [.ip 4 [t.c] 0 0, bI args, I sz] (.gN [bI (jB sz args t.aO t.aO.length), .bool true]) := by
 rw [kL.aN]
 refine lO 118 aP6 a0O a0P mix Tryz.func127 rfl (by kernel_rfl) (by simp) fun h => ?_
 simp -dsimp -implicitDefEqProofs only [go_sem, ↓reduceIte, Tryz.f127]
 refine ⟨by decide, ?_⟩
 refine bX (keep := aP6) (ib := a0O) (mk := a0P) mix (by kernel_rfl) (fun x : Nat × Option Nat => [(0, .ip 4 [[I t.jE, dB 4 aZ.c t.aO, dB 2 dX.c t.nJ, ints t.aM]] 0 0), (1, bI args), (2, I sz), (8, eK 1 x.1 x.2), (9, I x.1)]) (fun x => gQ h (bZ (jB sz args t.aO x.1)) x.2) (fun x => x.1 ≤ t.aO.length ∧ eP h (jB sz args t.aO x.1) x.2) (fun x => t.aO.length - x.1) (0, none) ⟨by simp [b8, bJ, eK], aB.le_refl _, Nat.zero_le _, rfl⟩ ?_
 rintro ⟨k, o⟩ ⟨hk, hos⟩
 simp only at hk hos ⊢
 have hml := jR sz args t.aO k
 rcases Nat.lt_or_ge k t.aO.length with hlt | hge
 ·have ek : t.aO[k]? = some t.aO[k] := List.getElem?_eq_getElem hlt
  have hin := hins k _ ek
  have hdk := hdiv k _ ek
  have hst : jB sz args t.aO (k + 1) = jB sz args t.aO k ++ [uN sz args (jB sz args t.aO k) t.aO[k]] := by
   rw [jB, show t.aO.getD k ⟨0, 0, 0, 0⟩ = t.aO[k] by rw [List.getD_eq_getElem?_getD, ek]; rfl]
  have aLL : bC sz (uN sz args (jB sz args t.aO k) t.aO[k]) := by
   rw [← aIA ek]; exact rJ hins ha hal k hlt
  generalize hc : t.aO[k] = c at *
  generalize hR : jB sz args t.aO k = R at *
  have hgR : ∀ i : Int, 0 ≤ i ∧ i < k → R[i.toNat]? = some (R.getD i.toNat []) ∧ bC sz (R.getD i.toNat []) := fun i hi => by
   refine ⟨fO (by omega), ?_⟩
   have h1 := rJ (sz := sz) hins ha hal i.toNat (by omega)
   rwa [l6, oZ sz args t.aO (k := k) (by omega) _ (by omega), hR] at h1
  cases o with
  |none =>
   rw [a9] at hos
   subst hos
   obtain rfl : k = 0 := hml.symm
   have hnext : ∀ (g : aB) (b : Nat) (s : List Int), s = uN sz args [] c → h b = none → (a5 h b (bZ [s])).le g → ∃ x' : Nat × Option Nat, (aD.os b 1 0 1 = eK 1 x'.1 x'.2 ∧ IntKind.i64.wrap (((0 : Nat) : Int) + 1) = (x'.1 : Int)) ∧ (gQ h (bZ (jB sz args t.aO x'.1)) x'.2).le g ∧ (x'.1 ≤ t.aO.length ∧ eP h (jB sz args t.aO x'.1) x'.2) ∧ t.aO.length - x'.1 < t.aO.length - 0 := fun g b s e z l => by
    subst e
    exact ⟨(1, some b), ⟨rfl, IntWalk.i64_in _ (by omega)⟩, by simp only [aL, hst]; exact l, ⟨hlt, z⟩, by simp only; omega⟩
   have uU := fK (uN sz args [] c) (by rw [aLL.1]; omega)
   rcases (show c.fM = 1 ∨ c.fM = 2 by unfold bE at hin; omega) with h1 | h1
   ·have hn : 0 ≤ c.aW ∧ c.aW < args.length := by unfold bE at hin; omega
    have ea : args[c.aW.toNat]? = some (args.getD c.aW.toNat []) := fO (by omega)
    simp -dsimp -implicitDefEqProofs only [go_sem, ↓reduceIte, Tryz.f127, a7, aR, hlt, ek, aZ.aN, h1, ea]
    refine fun _ m hm => ⟨Nat.zero_lt_one, hn.1, hn.2, ?_⟩
    rw [show args.getD c.aW.toNat [] = uN sz args [] c by rw [uN, if_pos h1]]
    first | refine aG.mk (uU) ?_ | refine aE.mk (uU) ?_ | refine aG.a8 (uU) ?_ | refine aE.mk (a6.cK (uU)) ?_
    simp -dsimp -implicitDefEqProofs only [go_sem, ↓reduceIte, Tryz.f127]
    refine ⟨by decide, by decide, by decide, fun b ⟨b1, _, b2⟩ => hnext _ b _ rfl b2 ?_⟩
    rw [aK]
    exact aB.fD (aB.bF hm (aB.le_refl _))
   ·simp -dsimp -implicitDefEqProofs only [go_sem, ↓reduceIte, Tryz.f127, a7, aR, hlt, ek, aZ.aN, h1]
    refine fun _ m hm => ⟨Nat.zero_lt_one, ?_⟩
    first | refine aG.mk (dT c.aW sz hsz.2) ?_ | refine aE.mk (dT c.aW sz hsz.2) ?_ | refine aG.a8 (dT c.aW sz hsz.2) ?_ | refine aE.mk (a6.cK (dT c.aW sz hsz.2)) ?_
    simp -dsimp -implicitDefEqProofs only [go_sem, ↓reduceIte, Tryz.f127]
    rw [show cF c.aW sz = uN sz args [] c by rw [uN, if_neg (by omega), if_pos h1]]
    first | refine aG.mk (uU) ?_ | refine aE.mk (uU) ?_ | refine aG.a8 (uU) ?_ | refine aE.mk (a6.cK (uU)) ?_
    simp -dsimp -implicitDefEqProofs only [go_sem, ↓reduceIte, Tryz.f127]
    refine ⟨by decide, by decide, by decide, fun b ⟨b1, _, b2⟩ => hnext _ b _ rfl b2 ?_⟩
    rw [aK]
    exact aB.fD (aB.bF hm (aB.le_refl _))
  |some n =>
   rw [aU] at hos
   have hnext : ∀ (g : aB) (b : Nat) (s : List Int), s = uN sz args R c → h b = none → (a5 h b (bZ (R ++ [s]))).le g → ∃ x' : Nat × Option Nat, (aD.os b 1 0 (k + 1) = eK 1 x'.1 x'.2 ∧ IntKind.i64.wrap ((k : Int) + 1) = (x'.1 : Int)) ∧ (gQ h (bZ (jB sz args t.aO x'.1)) x'.2).le g ∧ (x'.1 ≤ t.aO.length ∧ eP h (jB sz args t.aO x'.1) x'.2) ∧ t.aO.length - x'.1 < t.aO.length - k := fun g b s e z l => by
    subst e
    exact ⟨(k + 1, some b), ⟨rfl, IntWalk.i64_in _ (by omega)⟩, by simp only [aL, hst]; exact l, ⟨hlt, z⟩, by simp only; omega⟩
   have hop : 3 ≤ c.fM → opW c.fM (R.getD c.fA.toNat []) (R.getD c.fB.toNat []) = uN sz args R c := fun q => by rw [uN, if_neg (by omega), if_neg (by omega)]
   have hor := hin
   unfold bE at hor
   simp -dsimp -implicitDefEqProofs only [go_sem, ↓reduceIte, Tryz.f127, aT, aL, hlt, ek, aZ.aN]
   refine fun _ m ⟨dm, zm⟩ => ⟨Nat.zero_lt_one, ?_⟩
   have gX : ¬ m = n := dm
   have nK : ¬ n = m := Ne.symm gX
   have cY : (m = n) = False := eq_false gX
   have cZ : (n = m) = False := eq_false nK
   have qL : ∀ X Y Z, h.le (a5 (a5 (a5 (a5 h n X) m Y) m Z) n .gone) := fun X Y Z q => by
    by_cases e1 : q = n
    ·subst e1; exact .inl hos
    by_cases e2 : q = m
    ·subst e2; exact .inl zm
    rw [aF _ _ _ _ e1, aF _ _ _ _ e2, aF _ _ _ _ e2, aF _ _ _ _ e1]; exact .inr rfl
   have uU := fK (uN sz args R c) (by rw [aLL.1]; omega)
   rcases (show c.fM = 1 ∨ c.fM = 2 ∨ c.fM = 3 ∨ c.fM = 4 ∨ c.fM = 5 ∨ c.fM = 6 ∨ c.fM = 7 by omega) with h1 | h1 | h1 | h1 | h1 | h1 | h1
   ·have hn : 0 ≤ c.aW ∧ c.aW < args.length := by omega
    have ea : args[c.aW.toNat]? = some (args.getD c.aW.toNat []) := fO (by omega)
    simp -dsimp -implicitDefEqProofs only [go_sem, ↓reduceIte, Tryz.f127, h1, ea, cY, cZ, aF, bZ]
    refine ⟨hn.1, hn.2, ?_⟩
    rw [show args.getD c.aW.toNat [] = uN sz args R c by rw [uN, if_pos h1]]
    first | refine aG.mk (uU) ?_ | refine aE.mk (uU) ?_ | refine aG.a8 (uU) ?_ | refine aE.mk (a6.cK (uU)) ?_
    simp -dsimp -implicitDefEqProofs only [go_sem, ↓reduceIte, Tryz.f127, cY, cZ, aF, bZ]
    refine ⟨by decide, by decide, by decide, by omega, by omega, by omega, fun b hb => hnext _ b _ rfl (by first | exact hb.2.2.2 | exact hb.2.2) ?_⟩
    try rw [dQ R hml]
    exact aB.fD (qL _ _ _)
   ·simp -dsimp -implicitDefEqProofs only [go_sem, ↓reduceIte, Tryz.f127, h1, cY, cZ, aF, bZ]
    first | refine aG.mk (dT c.aW sz hsz.2) ?_ | refine aE.mk (dT c.aW sz hsz.2) ?_ | refine aG.a8 (dT c.aW sz hsz.2) ?_ | refine aE.mk (a6.cK (dT c.aW sz hsz.2)) ?_
    simp -dsimp -implicitDefEqProofs only [go_sem, ↓reduceIte, Tryz.f127, cY, cZ, aF, bZ]
    rw [show cF c.aW sz = uN sz args R c by rw [uN, if_neg (by omega), if_pos h1]]
    first | refine aG.mk (uU) ?_ | refine aE.mk (uU) ?_ | refine aG.a8 (uU) ?_ | refine aE.mk (a6.cK (uU)) ?_
    simp -dsimp -implicitDefEqProofs only [go_sem, ↓reduceIte, Tryz.f127, cY, cZ, aF, bZ]
    refine ⟨by decide, by decide, by decide, by omega, by omega, by omega, fun b hb => hnext _ b _ rfl (by first | exact hb.2.2.2 | exact hb.2.2) ?_⟩
    try rw [dQ R hml]
    exact aB.fD (qL _ _ _)
   ·have na := hgR c.fA (by omega)
    have nb := hgR c.fB (by omega)
    simp -dsimp -implicitDefEqProofs only [go_sem, ↓reduceIte, Tryz.f127, h1, bZ, na.1, nb.1, cY, cZ, aF]
    refine ⟨by omega, by omega, by omega, by omega, ?_⟩
    have hcall := lI (R.getD c.fA.toNat []) (R.getD c.fB.toNat []) (by rw [nb.2.1, na.2.1]) (by rw [na.2.1]; omega) na.2.2 nb.2.2
    rw [h1, show opW 3 (R.getD c.fA.toNat []) (R.getD c.fB.toNat []) = iC (R.getD c.fA.toNat []) (R.getD c.fB.toNat []) from rfl] at hop
    rw [hop (by omega)] at hcall
    first | refine aG.mk (hcall) ?_ | refine aE.mk (hcall) ?_ | refine aG.a8 (hcall) ?_ | refine aE.mk (a6.cK (hcall)) ?_
    simp -dsimp -implicitDefEqProofs only [go_sem, ↓reduceIte, Tryz.f127, bZ, cY, cZ, aF]
    first | refine aG.mk (uU) ?_ | refine aE.mk (uU) ?_ | refine aG.a8 (uU) ?_ | refine aE.mk (a6.cK (uU)) ?_
    simp -dsimp -implicitDefEqProofs only [go_sem, ↓reduceIte, Tryz.f127, cY, cZ, aF, bZ]
    refine ⟨by decide, by decide, by decide, by omega, by omega, by omega, fun b hb => hnext _ b _ rfl (by first | exact hb.2.2.2 | exact hb.2.2) ?_⟩
    try rw [dQ R hml]
    exact aB.fD (qL _ _ _)
   ·have na := hgR c.fA (by omega)
    have nb := hgR c.fB (by omega)
    simp -dsimp -implicitDefEqProofs only [go_sem, ↓reduceIte, Tryz.f127, h1, bZ, na.1, nb.1, cY, cZ, aF]
    refine ⟨by omega, by omega, by omega, by omega, ?_⟩
    have hcall := oF (R.getD c.fA.toNat []) (R.getD c.fB.toNat []) (by rw [nb.2.1, na.2.1]) (by rw [na.2.1]; omega) na.2.2 nb.2.2
    rw [h1, show opW 4 (R.getD c.fA.toNat []) (R.getD c.fB.toNat []) = y3 (R.getD c.fA.toNat []) (R.getD c.fB.toNat []) from rfl] at hop
    rw [hop (by omega)] at hcall
    first | refine aG.mk (hcall) ?_ | refine aE.mk (hcall) ?_ | refine aG.a8 (hcall) ?_ | refine aE.mk (a6.cK (hcall)) ?_
    simp -dsimp -implicitDefEqProofs only [go_sem, ↓reduceIte, Tryz.f127, bZ, cY, cZ, aF]
    first | refine aG.mk (uU) ?_ | refine aE.mk (uU) ?_ | refine aG.a8 (uU) ?_ | refine aE.mk (a6.cK (uU)) ?_
    simp -dsimp -implicitDefEqProofs only [go_sem, ↓reduceIte, Tryz.f127, cY, cZ, aF, bZ]
    refine ⟨by decide, by decide, by decide, by omega, by omega, by omega, fun b hb => hnext _ b _ rfl (by first | exact hb.2.2.2 | exact hb.2.2) ?_⟩
    try rw [dQ R hml]
    exact aB.fD (qL _ _ _)
   ·have na := hgR c.fA (by omega)
    have nb := hgR c.fB (by omega)
    simp -dsimp -implicitDefEqProofs only [go_sem, ↓reduceIte, Tryz.f127, h1, bZ, na.1, nb.1, cY, cZ, aF]
    refine ⟨by omega, by omega, by omega, by omega, ?_⟩
    have hcall := lJ (R.getD c.fA.toNat []) (R.getD c.fB.toNat []) (by rw [nb.2.1, na.2.1]) (by rw [na.2.1]; omega) na.2.2 nb.2.2
    rw [h1, show opW 5 (R.getD c.fA.toNat []) (R.getD c.fB.toNat []) = mulL (R.getD c.fA.toNat []) (R.getD c.fB.toNat []) from rfl] at hop
    rw [hop (by omega)] at hcall
    first | refine aG.mk (hcall) ?_ | refine aE.mk (hcall) ?_ | refine aG.a8 (hcall) ?_ | refine aE.mk (a6.cK (hcall)) ?_
    simp -dsimp -implicitDefEqProofs only [go_sem, ↓reduceIte, Tryz.f127, bZ, cY, cZ, aF]
    first | refine aG.mk (uU) ?_ | refine aE.mk (uU) ?_ | refine aG.a8 (uU) ?_ | refine aE.mk (a6.cK (uU)) ?_
    simp -dsimp -implicitDefEqProofs only [go_sem, ↓reduceIte, Tryz.f127, cY, cZ, aF, bZ]
    refine ⟨by decide, by decide, by decide, by omega, by omega, by omega, fun b hb => hnext _ b _ rfl (by first | exact hb.2.2.2 | exact hb.2.2) ?_⟩
    try rw [dQ R hml]
    exact aB.fD (qL _ _ _)
   ·have na := hgR c.fA (by omega)
    have nb := hgR c.fB (by omega)
    have hz : ¬ (R.getD c.fB.toNat []).getD 0 0 = 0 := by
     have h2 := hdk h1
     rwa [l6, oZ sz args t.aO (k := k) (by omega) _ (by omega), hR] at h2
    have gz : (R.getD c.fB.toNat [])[Int.toNat 0]? = some ((R.getD c.fB.toNat []).getD 0 0) := bR (by rw [nb.2.1]; exact hsz.1)
    have lz := nb.2.1
    simp -dsimp -implicitDefEqProofs only [go_sem, ↓reduceIte, Tryz.f127, h1, bZ, na.1, nb.1, gz, hz, cY, cZ, aF]
    refine ⟨by omega, by omega, by rw [lz]; omega, by omega, by omega, by omega, by omega, ?_⟩
    have hcall := aAN (R.getD c.fA.toNat []) (R.getD c.fB.toNat []) (by rw [nb.2.1, na.2.1]) (by rw [na.2.1]; omega) (by rw [na.2.1]; omega) na.2.2 nb.2.2
    rw [h1, show opW 6 (R.getD c.fA.toNat []) (R.getD c.fB.toNat []) = iK (R.getD c.fA.toNat []) (R.getD c.fB.toNat []) from rfl] at hop
    rw [hop (by omega)] at hcall
    first | refine aG.mk (hcall) ?_ | refine aE.mk (hcall) ?_ | refine aG.a8 (hcall) ?_ | refine aE.mk (a6.cK (hcall)) ?_
    simp -dsimp -implicitDefEqProofs only [go_sem, ↓reduceIte, Tryz.f127, bZ, cY, cZ, aF]
    first | refine aG.mk (uU) ?_ | refine aE.mk (uU) ?_ | refine aG.a8 (uU) ?_ | refine aE.mk (a6.cK (uU)) ?_
    simp -dsimp -implicitDefEqProofs only [go_sem, ↓reduceIte, Tryz.f127, cY, cZ, aF, bZ]
    refine ⟨by decide, by decide, by decide, by omega, by omega, by omega, fun b hb => hnext _ b _ rfl (by first | exact hb.2.2.2 | exact hb.2.2) ?_⟩
    try rw [dQ R hml]
    exact aB.fD (qL _ _ _)
   ·have na := hgR c.fA (by omega)
    simp -dsimp -implicitDefEqProofs only [go_sem, ↓reduceIte, Tryz.f127, h1, bZ, na.1, cY, cZ, aF]
    refine ⟨by omega, by omega, ?_⟩
    have hcall := kD (R.getD c.fA.toNat []) 1000002 (by unfold iI; omega) (by rw [na.2.1]; omega) na.2.2
    rw [h1, show opW 7 (R.getD c.fA.toNat []) (R.getD c.fB.toNat []) = iP (R.getD c.fA.toNat []) 1000002 from rfl] at hop
    rw [hop (by omega)] at hcall
    first | refine aG.mk (hcall) ?_ | refine aE.mk (hcall) ?_ | refine aG.a8 (hcall) ?_ | refine aE.mk (a6.cK (hcall)) ?_
    simp -dsimp -implicitDefEqProofs only [go_sem, ↓reduceIte, Tryz.f127, bZ, cY, cZ, aF]
    first | refine aG.mk (uU) ?_ | refine aE.mk (uU) ?_ | refine aG.a8 (uU) ?_ | refine aE.mk (a6.cK (uU)) ?_
    simp -dsimp -implicitDefEqProofs only [go_sem, ↓reduceIte, Tryz.f127, cY, cZ, aF, bZ]
    refine ⟨by decide, by decide, by decide, by omega, by omega, by omega, fun b hb => hnext _ b _ rfl (by first | exact hb.2.2.2 | exact hb.2.2) ?_⟩
    try rw [dQ R hml]
    exact aB.fD (qL _ _ _)
 ·have hk' : k = t.aO.length := by omega
  subst hk'
  cases o with
  |none =>
   rw [a9] at hos
   simp -dsimp -implicitDefEqProofs only [go_sem, ↓reduceIte, Tryz.f127, a7, aR, Nat.lt_irrefl, Int.lt_irrefl]
   rw [hos]
   exact fun _ => Shift.of (Sub.gN (.cons (Sub.loose _ _ _) (.cons (.refl _) .nil))) (aB.le_refl _)
  |some n =>
   rw [aU] at hos
   simp -dsimp -implicitDefEqProofs only [go_sem, ↓reduceIte, Tryz.f127, aT, aL, Nat.lt_irrefl, Int.lt_irrefl]
   refine fun _ => gK ((jB sz args t.aO t.aO.length).map fun s => [ints s]) hos (aB.le_refl _) (by simp [eF, e8, jR]) ?_
   have hte : List.take t.aO.length ((jB sz args t.aO t.aO.length).map fun s => [ints s]) = (jB sz args t.aO t.aO.length).map fun s => [ints s] := List.take_of_length_le (by rw [List.length_map, jR]; exact Nat.le_refl _)
   simp [aD.c9, kH, hte]
end Go.Hl
