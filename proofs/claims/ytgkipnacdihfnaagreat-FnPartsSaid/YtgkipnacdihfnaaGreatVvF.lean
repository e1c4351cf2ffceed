/-
  Contracts of functions and laws of the layer over the walk.
-/
import Derived.Test.YtgkipnacdihfnaaGreatVvE
import Derived.Test.YtgkipnacdihfnaaGreatVvC
import Derived.Test.YtgkipnacdihfnaaGreatVvD
import Derived.Test.YtgkipnacdihfnaaGreatHlD
import Derived.Test.YtgkipnacdihfnaaGreatVvB
import Derived.Test.YtgkipnacdihfnaaGreatVvA
import Derived.Lib.ItoaNum
namespace Go.Hl
set_option maxRecDepth 100000
open Go.Proofs
set_option linter.unusedVariables false
set_option linter.unusedSimpArgs false
theorem aY9 {p : aE} {inp : Int} {n : Nat} {h0 h : aB} {nb st : Nat} {c : Int} {e : aC} {env : List Int} {S : dU} (hR : jI h0 nb p inp S st c h) (hst : st ≤ 3000) (hs : ¬ c = 0 ∨ st = 3000) :
  iH Tryz.prog 73 [.op nb 8 0 0, .agg e.c, ints env] h (aD6 h0 nb p inp st c (fC p (n + 1) st e env S)) := by
 obtain ⟨om, og, ov, H⟩ := hR
 have hb := H.box
 unfold c4 at hb
 rw [aC.aU]
 refine j4 190 rF aD7 aD8 mix Tryz.func73 rfl (by kernel_rfl) (by simp) ?_
 simp -dsimp -implicitDefEqProofs only [go_sem, ↓reduceIte, Tryz.f73, hb]
 refine ⟨fun hc => ?_, fun hc => ?_⟩
 ·exact ⟨_, _, bI _ _, 0, S, st, c, rfl, ⟨_, _, _, H⟩, Nat.le_refl _, hst, by rw [iA _ hc]; exact eO _ _ hc⟩
 ·subst hc
  have h3 : st = 3000 := by rcases hs with hs | hs; exact absurd rfl hs; exact hs
  subst h3
  try simp -dsimp -implicitDefEqProofs only [go_sem, ↓reduceIte, Tryz.f73, hb]
  refine ⟨fun _ => ?_, fun q => absurd q (by simp)⟩
  refine ⟨_, _, bI _ _, 0, S, 3000, 7, rfl, ⟨_, _, _, H.set 3000 7⟩, Nat.le_refl _, hst, ?_⟩
  rw [cU, fC, if_pos rfl]
  exact eO _ _ (by decide)
@[go_sem] def a3Y : List Nat := [0, 2]
@[go_sem] def bIJ : List Nat := []
@[go_sem] def bIK : Marks := fun _ => ([], .nil, [])
theorem aTU (l : List Int) (hl : l.length ≤ 1048576) : fL Tryz.prog 103 [ints l] (.sl 1 (l.map fun n => [I n]) true) := by
 refine fT 9 a3Y bIJ bIK mix Tryz.func103 rfl (by kernel_rfl) (by simp) fun h => ?_
 simp -dsimp -implicitDefEqProofs only [go_sem, ↓reduceIte, Tryz.f103]
 repeat' (with_reducible first | intro _ | refine And.intro ?_ ?_)
 all_goals try omega
 rw [List.take_of_length_le (by rw [List.length_map]; exact Nat.le_refl _)]
theorem bIL {p : aE} (hp : p.ok) {inp : Int} {n : Nat} (hv : wE p inp n) {h0 h : aB} {nb st : Nat} {e : aC} {env : List Int} {S : dU} {funcs : Int} (hR : jI h0 nb p inp S st 0 h) (hst : st < 3000) (hn : 3001 ≤ n + 1 + st)
  (hok : e.ok p funcs env.length) (fN : 0 ≤ funcs) (hf : funcs ≤ p.aI.length) (hg : Good inp S st) (henv : ∀ x ∈ env, p9 S x) (hel : env.length ≤ 412 + st) (hk : e.aP = 1) :
  iH Tryz.prog 73 [.op nb 8 0 0, .agg e.c, ints env] h (aD6 h0 nb p inp st 0 (fC p (n + 1) st e env S)) := by
 obtain ⟨om, og, ov, H⟩ := hR
 rw [aC.aU]
 have hb := H.box
 unfold c4 at hb
 have e3 : ((st : Int) = 3000) = False := eq_false (by omega)
 have ew : IntKind.i64.wrap ((st : Int) + 1) = ((st + 1 : Nat) : Int) := by rw [IntWalk.i64_in _ (by omega)]; rfl
 have hnode := (aC.dB _ _ _ _).1 hok
 have h3 : ¬ st = 3000 := by omega
 have hcap := hg.cap
 have hgcap := hg.yB
 have o9 := hg.uF (Nat.le_succ st)
 have hR1 : jI h0 nb p inp S (st + 1) 0 (aR h nb (c4 p inp S om og ov (st + 1) 0)) := ⟨_, _, _, H.set (st + 1) 0⟩
 refine j4 190 rF aD7 aD8 mix Tryz.func73 rfl (by kernel_rfl) (by simp) ?_
 simp -dsimp -implicitDefEqProofs only [go_sem, ↓reduceIte, Tryz.f73, hb, e3, ew, hk]
 refine aH.fG (aH3 hR1 ⟨2, 0, 0, e.bC⟩ e.bC hg.len (by omega)) ?_
 rintro r h' ⟨rfl, hR2⟩
 simp -dsimp -implicitDefEqProofs only [go_sem, ↓reduceIte, Tryz.f73]
 refine ⟨_, _, bI _ _, _, _, st + 1, 0, rfl, hR2, Nat.le_succ _, hst, ?_⟩
 rw [cU, aLW h3 hk]
 exact lB _ _
theorem bIM {p : aE} (hp : p.ok) {inp : Int} {n : Nat} (hv : wE p inp n) {h0 h : aB} {nb st : Nat} {e : aC} {env : List Int} {S : dU} {funcs : Int} (hR : jI h0 nb p inp S st 0 h) (hst : st < 3000) (hn : 3001 ≤ n + 1 + st)
  (hok : e.ok p funcs env.length) (fN : 0 ≤ funcs) (hf : funcs ≤ p.aI.length) (hg : Good inp S st) (henv : ∀ x ∈ env, p9 S x) (hel : env.length ≤ 412 + st) (hk : e.aP = 2) :
  iH Tryz.prog 73 [.op nb 8 0 0, .agg e.c, ints env] h (aD6 h0 nb p inp st 0 (fC p (n + 1) st e env S)) := by
 obtain ⟨om, og, ov, H⟩ := hR
 rw [aC.aU]
 have hb := H.box
 unfold c4 at hb
 have e3 : ((st : Int) = 3000) = False := eq_false (by omega)
 have ew : IntKind.i64.wrap ((st : Int) + 1) = ((st + 1 : Nat) : Int) := by rw [IntWalk.i64_in _ (by omega)]; rfl
 have hnode := (aC.dB _ _ _ _).1 hok
 have h3 : ¬ st = 3000 := by omega
 have hcap := hg.cap
 have hgcap := hg.yB
 have o9 := hg.uF (Nat.le_succ st)
 have hR1 : jI h0 nb p inp S (st + 1) 0 (aR h nb (c4 p inp S om og ov (st + 1) 0)) := ⟨_, _, _, H.set (st + 1) 0⟩
 have hnum := ((dO (by omega)).1 hnode.1).2.2.2.2.1 hk
 have hlt : e.bC.toNat < env.length := by omega
 refine j4 190 rF aD7 aD8 mix Tryz.func73 rfl (by kernel_rfl) (by simp) ?_
 simp -dsimp -implicitDefEqProofs only [go_sem, ↓reduceIte, Tryz.f73, hb, e3, ew, hk, dS hlt]
 refine ⟨hnum.1, by omega, _, _, bI _ _, _, S, st + 1, 0, rfl, hR1, Nat.le_succ _, hst, ?_⟩
 rw [cU, aLX h3 hk]
 exact lB _ _
theorem bIN {p : aE} (hp : p.ok) {inp : Int} {n : Nat} (hv : wE p inp n) {h0 h : aB} {nb st : Nat} {e : aC} {env : List Int} {S : dU} {funcs : Int} (hR : jI h0 nb p inp S st 0 h) (hst : st < 3000) (hn : 3001 ≤ n + 1 + st)
  (hok : e.ok p funcs env.length) (fN : 0 ≤ funcs) (hf : funcs ≤ p.aI.length) (hg : Good inp S st) (henv : ∀ x ∈ env, p9 S x) (hel : env.length ≤ 412 + st) (hk : e.aP = 9) :
  iH Tryz.prog 73 [.op nb 8 0 0, .agg e.c, ints env] h (aD6 h0 nb p inp st 0 (fC p (n + 1) st e env S)) := by
 obtain ⟨om, og, ov, H⟩ := hR
 rw [aC.aU]
 have hb := H.box
 unfold c4 at hb
 have e3 : ((st : Int) = 3000) = False := eq_false (by omega)
 have ew : IntKind.i64.wrap ((st : Int) + 1) = ((st + 1 : Nat) : Int) := by rw [IntWalk.i64_in _ (by omega)]; rfl
 have hnode := (aC.dB _ _ _ _).1 hok
 have h3 : ¬ st = 3000 := by omega
 have hcap := hg.cap
 have hgcap := hg.yB
 have o9 := hg.uF (Nat.le_succ st)
 have hR1 : jI h0 nb p inp S (st + 1) 0 (aR h nb (c4 p inp S om og ov (st + 1) 0)) := ⟨_, _, _, H.set (st + 1) 0⟩
 have hlen := dT hok (by omega)
 rw [hk, show dR 9 = 2 from rfl] at hlen
 have g0 : e.aN[Int.toNat 0]? = some (e.nN 0) := aC.gR (by omega)
 have g1 : e.aN[Int.toNat 1]? = some (e.nN 1) := aC.gR (by omega)
 have o0 := aC.eP hok (i := 0) (by omega)
 have o1 := aC.eP hok (i := 1) (by omega)
 rw [hJ (by omega)] at o0
 rw [hk, show iX 9 1 (env.length : Int) = env.length + 1 from rfl] at o1
 refine j4 190 rF aD7 aD8 mix Tryz.func73 rfl (by kernel_rfl) (by simp) ?_
 simp -dsimp -implicitDefEqProofs only [go_sem, ↓reduceIte, Tryz.f73, hb, e3, ew, hk, g0, g1, aC.ld5]
 refine ⟨by omega, by omega, ?_⟩
 first | refine aH.mk (aTU env (by omega)) ?_ | refine aF.mk (aTU env (by omega)) ?_ | refine aH.bS (aTU env (by omega)) ?_ | refine aF.mk (bM.eQ (aTU env (by omega))) ?_
 simp -dsimp -implicitDefEqProofs only [go_sem, ↓reduceIte, Tryz.f73]
 refine aH.fG (hv _ _ nb (st + 1) 0 (e.nN 0) env S funcs hR1 (by omega) (by omega) o0 fN hf (fun _ => ⟨o9, henv⟩) (by omega)) ?_
 rintro r h' ⟨k1, S1, t1, c1, rfl, hR2, a1, a2, a3⟩
 simp -dsimp -implicitDefEqProofs only [go_sem, ↓reduceIte, Tryz.f73]
 refine ⟨Nat.zero_lt_one, Nat.zero_lt_one, Nat.zero_lt_one, by omega, by omega, fun m hm => ?_⟩
 have gC : ¬ nb = m := fun e => by obtain ⟨_, _, _, H2⟩ := hR2; have := H2.box; rw [e, hm] at this; cases this
 have fU : ¬ m = nb := Ne.symm gC
 have iG : (nb = m) = False := eq_false gC
 have iF : (m = nb) = False := eq_false fU
 have hrow : env.map (fun n => [I n]) ++ [[aD.int .i64 k1]] = (env ++ [k1]).map fun n => [I n] := by rw [List.map_append]; rfl
 rw [hrow]
 refine aH.aS7 gC (by rw [List.length_map, List.length_append]; rfl) hm ?_
 refine iH.mono (hv _ _ nb t1 c1 (e.nN 1) (env ++ [k1]) S1 funcs (hR2.aPH (o := .gone) hm) (by omega) (by omega) (by rw [List.length_append]; exact o1) fN hf (fun hc => ?_) (by rw [List.length_append]; show env.length + 1 ≤ _; omega)) ?_
 ·obtain ⟨_, e2⟩ := a3.ok hc
  obtain ⟨b1, b2, b3, b4⟩ := uH hp n (st + 1) (e.nN 0) env S funcs o0 hf o9 (by omega) henv _ _ e2
  refine ⟨b1, fun x hx => ?_⟩
  rcases List.mem_append.1 hx with hx | hx
  ·exact (henv x hx).ext b2
  ·rw [List.mem_singleton.1 hx]; exact b3
 rintro r h2 ⟨k2, S2, t2, c2, rfl, hR3, b1, b2, b3⟩
 obtain ⟨g, rfl, hgm, hR3⟩ := hR3.base (hR2.none hm)
 simp -dsimp -implicitDefEqProofs only [go_sem, ↓reduceIte, Tryz.f73]
 refine ⟨_, g, cM (aB.aY hgm (aB.le_refl _)), k2, S2, t2, c2, rfl, hR3, by omega, b2, ?_⟩
 rw [aLY h3 hk]
 exact a3.dP b3
theorem bIO {p : aE} (hp : p.ok) {inp : Int} {n : Nat} (hv : wE p inp n) {h0 h : aB} {nb st : Nat} {e : aC} {env : List Int} {S : dU} {funcs : Int} (hR : jI h0 nb p inp S st 0 h) (hst : st < 3000) (hn : 3001 ≤ n + 1 + st)
  (hok : e.ok p funcs env.length) (fN : 0 ≤ funcs) (hf : funcs ≤ p.aI.length) (hg : Good inp S st) (henv : ∀ x ∈ env, p9 S x) (hel : env.length ≤ 412 + st) (hk : e.aP = 8) :
  iH Tryz.prog 73 [.op nb 8 0 0, .agg e.c, ints env] h (aD6 h0 nb p inp st 0 (fC p (n + 1) st e env S)) := by
 obtain ⟨om, og, ov, H⟩ := hR
 rw [aC.aU]
 have hb := H.box
 unfold c4 at hb
 have e3 : ((st : Int) = 3000) = False := eq_false (by omega)
 have ew : IntKind.i64.wrap ((st : Int) + 1) = ((st + 1 : Nat) : Int) := by rw [IntWalk.i64_in _ (by omega)]; rfl
 have hnode := (aC.dB _ _ _ _).1 hok
 have h3 : ¬ st = 3000 := by omega
 have hcap := hg.cap
 have hgcap := hg.yB
 have o9 := hg.uF (Nat.le_succ st)
 have hR1 : jI h0 nb p inp S (st + 1) 0 (aR h nb (c4 p inp S om og ov (st + 1) 0)) := ⟨_, _, _, H.set (st + 1) 0⟩
 have hlen := dT hok (by omega)
 rw [hk, show dR 8 = 3 from rfl] at hlen
 have g0 : e.aN[Int.toNat 0]? = some (e.nN 0) := aC.gR (by omega)
 have g1 : e.aN[Int.toNat 1]? = some (e.nN 1) := aC.gR (by omega)
 have g2 : e.aN[Int.toNat 2]? = some (e.nN 2) := aC.gR (by omega)
 have o0 := aC.eP hok (i := 0) (by omega)
 have o1 := aC.eP hok (i := 1) (by omega)
 have o2 := aC.eP hok (i := 2) (by omega)
 rw [hJ (by omega)] at o0 o1 o2
 refine j4 190 rF aD7 aD8 mix Tryz.func73 rfl (by kernel_rfl) (by simp) ?_
 simp -dsimp -implicitDefEqProofs only [go_sem, ↓reduceIte, Tryz.f73, hb, e3, ew, hk, g0, aC.ld5]
 refine ⟨by omega, ?_⟩
 refine aH.fG (hv _ _ nb (st + 1) 0 (e.nN 0) env S funcs hR1 (by omega) (by omega) o0 fN hf (fun _ => ⟨o9, henv⟩) (by omega)) ?_
 rintro r h' ⟨k1, S1, t1, c1, rfl, ⟨om1, og1, ov1, H1⟩, a1, a2, a3⟩
 have sQ := H1.box
 unfold c4 at sQ
 simp -dsimp -implicitDefEqProofs only [go_sem, ↓reduceIte, Tryz.f73, sQ]
 refine ⟨fun hc => ?_, fun hc => ?_⟩
 ·refine ⟨_, _, bI _ _, 0, S1, t1, c1, rfl, ⟨_, _, _, H1⟩, by omega, a2, ?_⟩
  rw [zC h3 hk]
  exact a3.dP (by rw [iA _ hc]; exact eO _ _ hc)
 subst hc
 obtain ⟨_, e2⟩ := a3.ok rfl
 obtain ⟨q1, q2, q3, q4⟩ := uH hp n (st + 1) (e.nN 0) env S funcs o0 hf o9 (by omega) henv _ _ e2
 unfold pF at q4
 simp only at q1 q2 q3 q4
 obtain ⟨w, rfl, hw, dw⟩ := H1.row q3
 have rk := aA8 q3
 have k0 := q3.1
 have k2 := q3.2
 have lw := mA (fun n => [I n]) S1.gQ
 have hgc := q1.yB
 rw [bY] at sQ
 try simp -dsimp -implicitDefEqProofs only [go_sem, ↓reduceIte, Tryz.f73, sQ, hw, rk, bY]
 refine ⟨k0, by omega, ?_⟩
 have hgd := H1.gds
 cases og1 with
 |none =>
  have hg0 : S1.guards = [] := nQ.1 hgd
  rw [kW]
  simp -dsimp -implicitDefEqProofs only [go_sem, ↓reduceIte, Tryz.f73, sQ]
  refine ⟨by decide, by decide, by decide, fun b vK => ?_⟩
  have dC : ¬ b = nb := fun e => by rw [e, sQ] at vK; cases vK
  have jO : ¬ nb = b := Ne.symm dC
  have eV : (b = nb) = False := eq_false dC
  have eW : (nb = b) = False := eq_false jO
  simp -dsimp -implicitDefEqProofs only [go_sem, ↓reduceIte, Tryz.f73, sQ, eV, eW, aA, g1, g2, aC.ld5]
  refine ⟨fun hz => ⟨by omega, ?_⟩, fun hz => ⟨by omega, ?_⟩⟩
  ·rw [decide_eq_true hz]
   obtain ⟨g, hgl, hG⟩ := H1.guard ⟨k1, true⟩ vK (F := aR (aR h' b (.row 2 [[.v (I k1), .v (.bool true)]])) nb (c4 p inp (S1.guard ⟨k1, true⟩) om1 (some b) (some w) t1 0)) (aG _ _ _) (by rw [aA _ _ _ _ dC, aG, hg0]; rfl) (fun n h1 h2 _ => by rw [aA _ _ _ _ h1, aA _ _ _ _ h2])
   unfold c4 at hgl
   simp only [dU.guard, hg0, bY, List.nil_append, List.length_singleton] at hgl
   refine aH.wk (aB.jN hgl) ?_
   have hgG := q1.guard (b := true) q3 (by omega)
   have heG := q2.trans (S1.rE ⟨k1, true⟩)
   refine aH.fG (hv h0 g nb t1 0 (e.nN 1) env (S1.guard ⟨k1, true⟩) funcs ⟨_, _, _, hG⟩ (by omega) (by omega) o1 fN hf (fun _ => ⟨hgG, fun x hx => (henv x hx).ext heG⟩) (by omega)) ?_
   rintro r h2 ⟨k2, S2, t2, c2, rfl, hR3, b1, b2, b3⟩
   simp -dsimp -implicitDefEqProofs only [go_sem, ↓reduceIte, Tryz.f73]
   refine ⟨_, _, bI _ _, k2, S2, t2, c2, rfl, hR3, by omega, b2, ?_⟩
   rw [zC h3 hk]
   refine a3.dP ?_
   rw [if_pos hz]
   exact b3
  ·rw [decide_eq_false hz]
   obtain ⟨g, hgl, hG⟩ := H1.guard ⟨k1, false⟩ vK (F := aR (aR h' b (.row 2 [[.v (I k1), .v (.bool false)]])) nb (c4 p inp (S1.guard ⟨k1, false⟩) om1 (some b) (some w) t1 0)) (aG _ _ _) (by rw [aA _ _ _ _ dC, aG, hg0]; rfl) (fun n h1 h2 _ => by rw [aA _ _ _ _ h1, aA _ _ _ _ h2])
   unfold c4 at hgl
   simp only [dU.guard, hg0, bY, List.nil_append, List.length_singleton] at hgl
   refine aH.wk (aB.jN hgl) ?_
   have hgG := q1.guard (b := false) q3 (by omega)
   have heG := q2.trans (S1.rE ⟨k1, false⟩)
   refine aH.fG (hv h0 g nb t1 0 (e.nN 2) env (S1.guard ⟨k1, false⟩) funcs ⟨_, _, _, hG⟩ (by omega) (by omega) o2 fN hf (fun _ => ⟨hgG, fun x hx => (henv x hx).ext heG⟩) (by omega)) ?_
   rintro r h2 ⟨k2, S2, t2, c2, rfl, hR3, b1, b2, b3⟩
   simp -dsimp -implicitDefEqProofs only [go_sem, ↓reduceIte, Tryz.f73]
   refine ⟨_, _, bI _ _, k2, S2, t2, c2, rfl, hR3, by omega, b2, ?_⟩
   rw [zC h3 hk]
   refine a3.dP ?_
   rw [if_neg hz]
   exact b3
 |some gm =>
  have hgm := hgd.2
  have aTV : ¬ gm = nb := fun e => by rw [e, sQ] at hgm; cases hgm
  have a3Z : ¬ nb = gm := Ne.symm aTV
  have a30 : (gm = nb) = False := eq_false aTV
  have a31 : (nb = gm) = False := eq_false a3Z
  rw [bY]
  simp -dsimp -implicitDefEqProofs only [go_sem, ↓reduceIte, Tryz.f73, sQ, hgm, mA]
  refine ⟨by decide, by decide, by decide, Nat.le_refl _, by omega, by omega, fun b vK => ?_⟩
  have dC : ¬ b = nb := fun e => by rw [e, sQ] at vK; cases vK
  have jO : ¬ nb = b := Ne.symm dC
  have eV : (b = nb) = False := eq_false dC
  have eW : (nb = b) = False := eq_false jO
  have aZC : ¬ b = gm := fun e => by rw [e, hgm] at vK; cases vK
  have bAS : ¬ gm = b := Ne.symm aZC
  have bAT : (b = gm) = False := eq_false aZC
  have bAU : (gm = b) = False := eq_false bAS
  simp -dsimp -implicitDefEqProofs only [go_sem, ↓reduceIte, Tryz.f73, sQ, eV, bAT, eW, a31, bAU, a30, aA, g1, g2, aC.ld5]
  refine ⟨fun hz => ⟨by omega, ?_⟩, fun hz => ⟨by omega, ?_⟩⟩
  ·rw [decide_eq_true hz, List.take_of_length_le (by rw [mA]; exact Nat.le_refl _)]
   obtain ⟨g, hgl, hG⟩ := H1.guard ⟨k1, true⟩ vK (F := aR (aR (aR h' gm .gone) b (.row 2 (rowsOf gI.c S1.guards ++ [[.v (I k1), .v (.bool true)]]))) nb (c4 p inp (S1.guard ⟨k1, true⟩) om1 (some b) (some w) t1 0)) (aG _ _ _) (by rw [aA _ _ _ _ dC, aG, uI]; rfl) (fun n h1 h2 h3 => by rw [aA _ _ _ _ h1, aA _ _ _ _ h2, aA _ _ _ _ (fun q => h3 (by rw [q]))])
   unfold c4 at hgl
   simp only [dU.guard, bY, List.length_append, List.length_singleton] at hgl
   refine aH.wk (aB.jN hgl) ?_
   have hgG := q1.guard (b := true) q3 (by omega)
   have heG := q2.trans (S1.rE ⟨k1, true⟩)
   refine aH.fG (hv h0 g nb t1 0 (e.nN 1) env (S1.guard ⟨k1, true⟩) funcs ⟨_, _, _, hG⟩ (by omega) (by omega) o1 fN hf (fun _ => ⟨hgG, fun x hx => (henv x hx).ext heG⟩) (by omega)) ?_
   rintro r h2 ⟨k2, S2, t2, c2, rfl, hR3, b1, b2, b3⟩
   simp -dsimp -implicitDefEqProofs only [go_sem, ↓reduceIte, Tryz.f73]
   refine ⟨_, _, bI _ _, k2, S2, t2, c2, rfl, hR3, by omega, b2, ?_⟩
   rw [zC h3 hk]
   refine a3.dP ?_
   rw [if_pos hz]
   exact b3
  ·rw [decide_eq_false hz, List.take_of_length_le (by rw [mA]; exact Nat.le_refl _)]
   obtain ⟨g, hgl, hG⟩ := H1.guard ⟨k1, false⟩ vK (F := aR (aR (aR h' gm .gone) b (.row 2 (rowsOf gI.c S1.guards ++ [[.v (I k1), .v (.bool false)]]))) nb (c4 p inp (S1.guard ⟨k1, false⟩) om1 (some b) (some w) t1 0)) (aG _ _ _) (by rw [aA _ _ _ _ dC, aG, uI]; rfl) (fun n h1 h2 h3 => by rw [aA _ _ _ _ h1, aA _ _ _ _ h2, aA _ _ _ _ (fun q => h3 (by rw [q]))])
   unfold c4 at hgl
   simp only [dU.guard, bY, List.length_append, List.length_singleton] at hgl
   refine aH.wk (aB.jN hgl) ?_
   have hgG := q1.guard (b := false) q3 (by omega)
   have heG := q2.trans (S1.rE ⟨k1, false⟩)
   refine aH.fG (hv h0 g nb t1 0 (e.nN 2) env (S1.guard ⟨k1, false⟩) funcs ⟨_, _, _, hG⟩ (by omega) (by omega) o2 fN hf (fun _ => ⟨hgG, fun x hx => (henv x hx).ext heG⟩) (by omega)) ?_
   rintro r h2 ⟨k2, S2, t2, c2, rfl, hR3, b1, b2, b3⟩
   simp -dsimp -implicitDefEqProofs only [go_sem, ↓reduceIte, Tryz.f73]
   refine ⟨_, _, bI _ _, k2, S2, t2, c2, rfl, hR3, by omega, b2, ?_⟩
   rw [zC h3 hk]
   refine a3.dP ?_
   rw [if_neg hz]
   exact b3
set_option maxRecDepth 100000
open Go.Proofs
set_option linter.unusedVariables false
set_option linter.unusedSimpArgs false
theorem bIP {p : aE} (hp : p.ok) {inp : Int} {n : Nat} (hv : wE p inp n) {h0 h : aB} {nb st : Nat} {e : aC} {env : List Int} {S : dU} {funcs : Int} (hR : jI h0 nb p inp S st 0 h) (hst : st < 3000) (hn : 3001 ≤ n + 1 + st)
  (hok : e.ok p funcs env.length) (fN : 0 ≤ funcs) (hf : funcs ≤ p.aI.length) (hg : Good inp S st) (henv : ∀ x ∈ env, p9 S x) (hel : env.length ≤ 412 + st) (hk : e.aP = 3) :
  iH Tryz.prog 73 [.op nb 8 0 0, .agg e.c, ints env] h (aD6 h0 nb p inp st 0 (fC p (n + 1) st e env S)) := by
 obtain ⟨om, og, ov, H⟩ := hR
 rw [aC.aU]
 have hb := H.box
 unfold c4 at hb
 have e3 : ((st : Int) = 3000) = False := eq_false (by omega)
 have ew : IntKind.i64.wrap ((st : Int) + 1) = ((st + 1 : Nat) : Int) := by rw [IntWalk.i64_in _ (by omega)]; rfl
 have hnode := (aC.dB _ _ _ _).1 hok
 have h3 : ¬ st = 3000 := by omega
 have hcap := hg.cap
 have hgcap := hg.yB
 have o9 := hg.uF (Nat.le_succ st)
 have hR1 : jI h0 nb p inp S (st + 1) 0 (aR h nb (c4 p inp S om og ov (st + 1) 0)) := ⟨_, _, _, H.set (st + 1) 0⟩
 have hlen := dT hok (by omega)
 rw [hk, show dR 3 = 2 from rfl] at hlen
 have hkl : e.aN.length ≤ 1048576 := by omega
 refine j4 190 rF aD7 aD8 mix Tryz.func73 rfl (by kernel_rfl) (by simp) ?_
 simp -dsimp -implicitDefEqProofs only [go_sem, ↓reduceIte, Tryz.f73, hb, e3, ew, hk]
 refine aH.fG (sR hp hv h0 _ nb (st + 1) 0 e.aN env S funcs hR1 (by omega) (by omega) hkl (eY hok (by omega)) fN hf (fun _ => ⟨o9, henv⟩) (by omega)) ?_
 rintro r h' ⟨vs, S1, t1, c1, rfl, ⟨om1, og1, ov1, H1⟩, hvl, a1, a2, a3⟩
 have sQ := H1.box
 unfold c4 at sQ
 simp -dsimp -implicitDefEqProofs only [go_sem, ↓reduceIte, Tryz.f73, sQ]
 refine ⟨fun hc => ?_, fun hc => ?_⟩
 ·refine ⟨_, _, bI _ _, 0, S1, t1, c1, rfl, ⟨_, _, _, H1⟩, by omega, a2, ?_⟩
  rw [nW h3 (by omega)]
  exact a3.dP (by rw [iA _ hc]; exact eO _ _ hc)
 subst hc
 obtain ⟨_, e2⟩ := a3.ok rfl
 obtain ⟨q1, q2, q3, q4⟩ := nX hp o9 (by omega) henv (eY hok (by omega)) hf _ _ e2
 simp only at q1 q2 q3
 try simp -dsimp -implicitDefEqProofs only [go_sem, ↓reduceIte, Tryz.f73, hk]
 refine aH.fG (qB ⟨_, _, _, H1⟩ q1 a2 3 vs (by decide) (by omega) (by omega) q3.2 (by omega)) ?_
 rintro r h2 ⟨k2, S2, c2, rfl, hR3, b3⟩
 simp -dsimp -implicitDefEqProofs only [go_sem, ↓reduceIte, Tryz.f73]
 refine ⟨_, _, bI _ _, k2, S2, t1, c2, rfl, hR3, by omega, a2, ?_⟩
 rw [nW h3 (by omega)]
 refine a3.dP ?_
 rw [cU, hk]
 exact b3
theorem bIQ {p : aE} (hp : p.ok) {inp : Int} {n : Nat} (hv : wE p inp n) {h0 h : aB} {nb st : Nat} {e : aC} {env : List Int} {S : dU} {funcs : Int} (hR : jI h0 nb p inp S st 0 h) (hst : st < 3000) (hn : 3001 ≤ n + 1 + st)
  (hok : e.ok p funcs env.length) (fN : 0 ≤ funcs) (hf : funcs ≤ p.aI.length) (hg : Good inp S st) (henv : ∀ x ∈ env, p9 S x) (hel : env.length ≤ 412 + st) (hk : e.aP = 4) :
  iH Tryz.prog 73 [.op nb 8 0 0, .agg e.c, ints env] h (aD6 h0 nb p inp st 0 (fC p (n + 1) st e env S)) := by
 obtain ⟨om, og, ov, H⟩ := hR
 rw [aC.aU]
 have hb := H.box
 unfold c4 at hb
 have e3 : ((st : Int) = 3000) = False := eq_false (by omega)
 have ew : IntKind.i64.wrap ((st : Int) + 1) = ((st + 1 : Nat) : Int) := by rw [IntWalk.i64_in _ (by omega)]; rfl
 have hnode := (aC.dB _ _ _ _).1 hok
 have h3 : ¬ st = 3000 := by omega
 have hcap := hg.cap
 have hgcap := hg.yB
 have o9 := hg.uF (Nat.le_succ st)
 have hR1 : jI h0 nb p inp S (st + 1) 0 (aR h nb (c4 p inp S om og ov (st + 1) 0)) := ⟨_, _, _, H.set (st + 1) 0⟩
 have hlen := dT hok (by omega)
 rw [hk, show dR 4 = 2 from rfl] at hlen
 have hkl : e.aN.length ≤ 1048576 := by omega
 refine j4 190 rF aD7 aD8 mix Tryz.func73 rfl (by kernel_rfl) (by simp) ?_
 simp -dsimp -implicitDefEqProofs only [go_sem, ↓reduceIte, Tryz.f73, hb, e3, ew, hk]
 refine aH.fG (sR hp hv h0 _ nb (st + 1) 0 e.aN env S funcs hR1 (by omega) (by omega) hkl (eY hok (by omega)) fN hf (fun _ => ⟨o9, henv⟩) (by omega)) ?_
 rintro r h' ⟨vs, S1, t1, c1, rfl, ⟨om1, og1, ov1, H1⟩, hvl, a1, a2, a3⟩
 have sQ := H1.box
 unfold c4 at sQ
 simp -dsimp -implicitDefEqProofs only [go_sem, ↓reduceIte, Tryz.f73, sQ]
 refine ⟨fun hc => ?_, fun hc => ?_⟩
 ·refine ⟨_, _, bI _ _, 0, S1, t1, c1, rfl, ⟨_, _, _, H1⟩, by omega, a2, ?_⟩
  rw [nW h3 (by omega)]
  exact a3.dP (by rw [iA _ hc]; exact eO _ _ hc)
 subst hc
 obtain ⟨_, e2⟩ := a3.ok rfl
 obtain ⟨q1, q2, q3, q4⟩ := nX hp o9 (by omega) henv (eY hok (by omega)) hf _ _ e2
 simp only at q1 q2 q3
 try simp -dsimp -implicitDefEqProofs only [go_sem, ↓reduceIte, Tryz.f73, hk]
 refine aH.fG (qB ⟨_, _, _, H1⟩ q1 a2 4 vs (by decide) (by omega) (by omega) q3.2 (by omega)) ?_
 rintro r h2 ⟨k2, S2, c2, rfl, hR3, b3⟩
 simp -dsimp -implicitDefEqProofs only [go_sem, ↓reduceIte, Tryz.f73]
 refine ⟨_, _, bI _ _, k2, S2, t1, c2, rfl, hR3, by omega, a2, ?_⟩
 rw [nW h3 (by omega)]
 refine a3.dP ?_
 rw [cU, hk]
 exact b3
theorem bIR {p : aE} (hp : p.ok) {inp : Int} {n : Nat} (hv : wE p inp n) {h0 h : aB} {nb st : Nat} {e : aC} {env : List Int} {S : dU} {funcs : Int} (hR : jI h0 nb p inp S st 0 h) (hst : st < 3000) (hn : 3001 ≤ n + 1 + st)
  (hok : e.ok p funcs env.length) (fN : 0 ≤ funcs) (hf : funcs ≤ p.aI.length) (hg : Good inp S st) (henv : ∀ x ∈ env, p9 S x) (hel : env.length ≤ 412 + st) (hk : e.aP = 5) :
  iH Tryz.prog 73 [.op nb 8 0 0, .agg e.c, ints env] h (aD6 h0 nb p inp st 0 (fC p (n + 1) st e env S)) := by
 obtain ⟨om, og, ov, H⟩ := hR
 rw [aC.aU]
 have hb := H.box
 unfold c4 at hb
 have e3 : ((st : Int) = 3000) = False := eq_false (by omega)
 have ew : IntKind.i64.wrap ((st : Int) + 1) = ((st + 1 : Nat) : Int) := by rw [IntWalk.i64_in _ (by omega)]; rfl
 have hnode := (aC.dB _ _ _ _).1 hok
 have h3 : ¬ st = 3000 := by omega
 have hcap := hg.cap
 have hgcap := hg.yB
 have o9 := hg.uF (Nat.le_succ st)
 have hR1 : jI h0 nb p inp S (st + 1) 0 (aR h nb (c4 p inp S om og ov (st + 1) 0)) := ⟨_, _, _, H.set (st + 1) 0⟩
 have hlen := dT hok (by omega)
 rw [hk, show dR 5 = 2 from rfl] at hlen
 have hkl : e.aN.length ≤ 1048576 := by omega
 refine j4 190 rF aD7 aD8 mix Tryz.func73 rfl (by kernel_rfl) (by simp) ?_
 simp -dsimp -implicitDefEqProofs only [go_sem, ↓reduceIte, Tryz.f73, hb, e3, ew, hk]
 refine aH.fG (sR hp hv h0 _ nb (st + 1) 0 e.aN env S funcs hR1 (by omega) (by omega) hkl (eY hok (by omega)) fN hf (fun _ => ⟨o9, henv⟩) (by omega)) ?_
 rintro r h' ⟨vs, S1, t1, c1, rfl, ⟨om1, og1, ov1, H1⟩, hvl, a1, a2, a3⟩
 have sQ := H1.box
 unfold c4 at sQ
 simp -dsimp -implicitDefEqProofs only [go_sem, ↓reduceIte, Tryz.f73, sQ]
 refine ⟨fun hc => ?_, fun hc => ?_⟩
 ·refine ⟨_, _, bI _ _, 0, S1, t1, c1, rfl, ⟨_, _, _, H1⟩, by omega, a2, ?_⟩
  rw [nW h3 (by omega)]
  exact a3.dP (by rw [iA _ hc]; exact eO _ _ hc)
 subst hc
 obtain ⟨_, e2⟩ := a3.ok rfl
 obtain ⟨q1, q2, q3, q4⟩ := nX hp o9 (by omega) henv (eY hok (by omega)) hf _ _ e2
 simp only at q1 q2 q3
 try simp -dsimp -implicitDefEqProofs only [go_sem, ↓reduceIte, Tryz.f73, hk]
 refine aH.fG (qB ⟨_, _, _, H1⟩ q1 a2 5 vs (by decide) (by omega) (by omega) q3.2 (by omega)) ?_
 rintro r h2 ⟨k2, S2, c2, rfl, hR3, b3⟩
 simp -dsimp -implicitDefEqProofs only [go_sem, ↓reduceIte, Tryz.f73]
 refine ⟨_, _, bI _ _, k2, S2, t1, c2, rfl, hR3, by omega, a2, ?_⟩
 rw [nW h3 (by omega)]
 refine a3.dP ?_
 rw [cU, hk]
 exact b3
theorem bIS {p : aE} (hp : p.ok) {inp : Int} {n : Nat} (hv : wE p inp n) {h0 h : aB} {nb st : Nat} {e : aC} {env : List Int} {S : dU} {funcs : Int} (hR : jI h0 nb p inp S st 0 h) (hst : st < 3000) (hn : 3001 ≤ n + 1 + st)
  (hok : e.ok p funcs env.length) (fN : 0 ≤ funcs) (hf : funcs ≤ p.aI.length) (hg : Good inp S st) (henv : ∀ x ∈ env, p9 S x) (hel : env.length ≤ 412 + st) (hk : e.aP = 6) :
  iH Tryz.prog 73 [.op nb 8 0 0, .agg e.c, ints env] h (aD6 h0 nb p inp st 0 (fC p (n + 1) st e env S)) := by
 obtain ⟨om, og, ov, H⟩ := hR
 rw [aC.aU]
 have hb := H.box
 unfold c4 at hb
 have e3 : ((st : Int) = 3000) = False := eq_false (by omega)
 have ew : IntKind.i64.wrap ((st : Int) + 1) = ((st + 1 : Nat) : Int) := by rw [IntWalk.i64_in _ (by omega)]; rfl
 have hnode := (aC.dB _ _ _ _).1 hok
 have h3 : ¬ st = 3000 := by omega
 have hcap := hg.cap
 have hgcap := hg.yB
 have o9 := hg.uF (Nat.le_succ st)
 have hR1 : jI h0 nb p inp S (st + 1) 0 (aR h nb (c4 p inp S om og ov (st + 1) 0)) := ⟨_, _, _, H.set (st + 1) 0⟩
 have hlen := dT hok (by omega)
 rw [hk, show dR 6 = 2 from rfl] at hlen
 have hkl : e.aN.length ≤ 1048576 := by omega
 refine j4 190 rF aD7 aD8 mix Tryz.func73 rfl (by kernel_rfl) (by simp) ?_
 simp -dsimp -implicitDefEqProofs only [go_sem, ↓reduceIte, Tryz.f73, hb, e3, ew, hk]
 refine aH.fG (sR hp hv h0 _ nb (st + 1) 0 e.aN env S funcs hR1 (by omega) (by omega) hkl (eY hok (by omega)) fN hf (fun _ => ⟨o9, henv⟩) (by omega)) ?_
 rintro r h' ⟨vs, S1, t1, c1, rfl, ⟨om1, og1, ov1, H1⟩, hvl, a1, a2, a3⟩
 have sQ := H1.box
 unfold c4 at sQ
 simp -dsimp -implicitDefEqProofs only [go_sem, ↓reduceIte, Tryz.f73, sQ]
 refine ⟨fun hc => ?_, fun hc => ?_⟩
 ·refine ⟨_, _, bI _ _, 0, S1, t1, c1, rfl, ⟨_, _, _, H1⟩, by omega, a2, ?_⟩
  rw [nW h3 (by omega)]
  exact a3.dP (by rw [iA _ hc]; exact eO _ _ hc)
 subst hc
 obtain ⟨_, e2⟩ := a3.ok rfl
 obtain ⟨q1, q2, q3, q4⟩ := nX hp o9 (by omega) henv (eY hok (by omega)) hf _ _ e2
 simp only at q1 q2 q3
 try simp -dsimp -implicitDefEqProofs only [go_sem, ↓reduceIte, Tryz.f73, hk]
 refine aH.fG (qB ⟨_, _, _, H1⟩ q1 a2 6 vs (by decide) (by omega) (by omega) q3.2 (by omega)) ?_
 rintro r h2 ⟨k2, S2, c2, rfl, hR3, b3⟩
 simp -dsimp -implicitDefEqProofs only [go_sem, ↓reduceIte, Tryz.f73]
 refine ⟨_, _, bI _ _, k2, S2, t1, c2, rfl, hR3, by omega, a2, ?_⟩
 rw [nW h3 (by omega)]
 refine a3.dP ?_
 rw [cU, hk]
 exact b3
theorem bIT {p : aE} (hp : p.ok) {inp : Int} {n : Nat} (hv : wE p inp n) {h0 h : aB} {nb st : Nat} {e : aC} {env : List Int} {S : dU} {funcs : Int} (hR : jI h0 nb p inp S st 0 h) (hst : st < 3000) (hn : 3001 ≤ n + 1 + st)
  (hok : e.ok p funcs env.length) (fN : 0 ≤ funcs) (hf : funcs ≤ p.aI.length) (hg : Good inp S st) (henv : ∀ x ∈ env, p9 S x) (hel : env.length ≤ 412 + st) (hk : e.aP = 7) :
  iH Tryz.prog 73 [.op nb 8 0 0, .agg e.c, ints env] h (aD6 h0 nb p inp st 0 (fC p (n + 1) st e env S)) := by
 obtain ⟨om, og, ov, H⟩ := hR
 rw [aC.aU]
 have hb := H.box
 unfold c4 at hb
 have e3 : ((st : Int) = 3000) = False := eq_false (by omega)
 have ew : IntKind.i64.wrap ((st : Int) + 1) = ((st + 1 : Nat) : Int) := by rw [IntWalk.i64_in _ (by omega)]; rfl
 have hnode := (aC.dB _ _ _ _).1 hok
 have h3 : ¬ st = 3000 := by omega
 have hcap := hg.cap
 have hgcap := hg.yB
 have o9 := hg.uF (Nat.le_succ st)
 have hR1 : jI h0 nb p inp S (st + 1) 0 (aR h nb (c4 p inp S om og ov (st + 1) 0)) := ⟨_, _, _, H.set (st + 1) 0⟩
 have hlen := dT hok (by omega)
 rw [hk, show dR 7 = 1 from rfl] at hlen
 have hkl : e.aN.length ≤ 1048576 := by omega
 refine j4 190 rF aD7 aD8 mix Tryz.func73 rfl (by kernel_rfl) (by simp) ?_
 simp -dsimp -implicitDefEqProofs only [go_sem, ↓reduceIte, Tryz.f73, hb, e3, ew, hk]
 refine aH.fG (sR hp hv h0 _ nb (st + 1) 0 e.aN env S funcs hR1 (by omega) (by omega) hkl (eY hok (by omega)) fN hf (fun _ => ⟨o9, henv⟩) (by omega)) ?_
 rintro r h' ⟨vs, S1, t1, c1, rfl, ⟨om1, og1, ov1, H1⟩, hvl, a1, a2, a3⟩
 have sQ := H1.box
 unfold c4 at sQ
 simp -dsimp -implicitDefEqProofs only [go_sem, ↓reduceIte, Tryz.f73, sQ]
 refine ⟨fun hc => ?_, fun hc => ?_⟩
 ·refine ⟨_, _, bI _ _, 0, S1, t1, c1, rfl, ⟨_, _, _, H1⟩, by omega, a2, ?_⟩
  rw [nW h3 (by omega)]
  exact a3.dP (by rw [iA _ hc]; exact eO _ _ hc)
 subst hc
 obtain ⟨_, e2⟩ := a3.ok rfl
 obtain ⟨q1, q2, q3, q4⟩ := nX hp o9 (by omega) henv (eY hok (by omega)) hf _ _ e2
 simp only at q1 q2 q3
 try simp -dsimp -implicitDefEqProofs only [go_sem, ↓reduceIte, Tryz.f73, hk]
 refine aH.fG (qB ⟨_, _, _, H1⟩ q1 a2 7 vs (by decide) (by omega) (by omega) q3.2 (by omega)) ?_
 rintro r h2 ⟨k2, S2, c2, rfl, hR3, b3⟩
 simp -dsimp -implicitDefEqProofs only [go_sem, ↓reduceIte, Tryz.f73]
 refine ⟨_, _, bI _ _, k2, S2, t1, c2, rfl, hR3, by omega, a2, ?_⟩
 rw [nW h3 (by omega)]
 refine a3.dP ?_
 rw [cU, hk]
 exact b3
theorem bAV {p : aE} (hp : p.ok) {inp : Int} {n : Nat} (hv : wE p inp n) {h0 h : aB} {nb st : Nat} {e : aC} {env : List Int} {S : dU} {funcs : Int} (hR : jI h0 nb p inp S st 0 h) (hst : st < 3000) (hn : 3001 ≤ n + 1 + st)
  (hok : e.ok p funcs env.length) (fN : 0 ≤ funcs) (hf : funcs ≤ p.aI.length) (hg : Good inp S st) (henv : ∀ x ∈ env, p9 S x) (hel : env.length ≤ 412 + st) (hk : e.aP = 10) :
  iH Tryz.prog 73 [.op nb 8 0 0, .agg e.c, ints env] h (aD6 h0 nb p inp st 0 (fC p (n + 1) st e env S)) := by
 obtain ⟨om, og, ov, H⟩ := hR
 rw [aC.aU]
 have hb := H.box
 unfold c4 at hb
 have e3 : ((st : Int) = 3000) = False := eq_false (by omega)
 have ew : IntKind.i64.wrap ((st : Int) + 1) = ((st + 1 : Nat) : Int) := by rw [IntWalk.i64_in _ (by omega)]; rfl
 have hnode := (aC.dB _ _ _ _).1 hok
 have h3 : ¬ st = 3000 := by omega
 have hcap := hg.cap
 have hgcap := hg.yB
 have o9 := hg.uF (Nat.le_succ st)
 have hR1 : jI h0 nb p inp S (st + 1) 0 (aR h nb (c4 p inp S om og ov (st + 1) 0)) := ⟨_, _, _, H.set (st + 1) 0⟩
 obtain ⟨f, F⟩ := m6 hp hok hf (.inl hk)
 have hkl : e.aN.length ≤ 1048576 := by have := F.kids; have := F.params; omega
 refine j4 190 rF aD7 aD8 mix Tryz.func73 rfl (by kernel_rfl) (by simp) ?_
 simp -dsimp -implicitDefEqProofs only [go_sem, ↓reduceIte, Tryz.f73, hb, e3, ew, hk]
 refine aH.fG (sR hp hv h0 _ nb (st + 1) 0 e.aN env S funcs hR1 (by omega) (by omega) hkl (eY hok (by omega)) fN hf (fun _ => ⟨o9, henv⟩) (by omega)) ?_
 rintro r h' ⟨vs, S1, t1, c1, rfl, ⟨om1, og1, ov1, H1⟩, hvl, a1, a2, a3⟩
 have sQ := H1.box
 unfold c4 at sQ
 simp -dsimp -implicitDefEqProofs only [go_sem, ↓reduceIte, Tryz.f73, sQ]
 refine ⟨fun hc => ?_, fun hc => ?_⟩
 ·refine ⟨_, _, bI _ _, 0, S1, t1, c1, rfl, ⟨_, _, _, H1⟩, by omega, a2, ?_⟩
  rw [aCO h3 hk]
  exact a3.dP (by rw [iA _ hc]; exact eO _ _ hc)
 subst hc
 obtain ⟨_, e2⟩ := a3.ok rfl
 obtain ⟨q1, q2, q3, q4⟩ := nX hp o9 (by omega) henv (eY hok (by omega)) hf _ _ e2
 simp only at q1 q2 q3
 try simp -dsimp -implicitDefEqProofs only [go_sem, ↓reduceIte, Tryz.f73, hk, sQ, F.get, F.out, aT.aU, aC.ld5]
 have f1 := F.lo
 have f2 := F.hi
 have f3 := F.pk
 have f4 := F.pk2
 have f5 := F.kids
 have f6 := F.params
 refine ⟨f1, f2, f3, by omega, ?_⟩
 refine aH.fG (hv h0 _ nb t1 0 (p.out e.bC e.cR) vs S1 e.bC ⟨_, _, _, H1⟩ (by omega) (by omega) (by rw [hvl, f5]; exact F.oks _ (List.mem_of_getElem? F.out)) f1 (by omega) (fun _ => ⟨q1, q3.2⟩) (by omega)) ?_
 rintro r h2 ⟨k2, S2, t2, c2, rfl, hR3, b1, b2, b3⟩
 simp -dsimp -implicitDefEqProofs only [go_sem, ↓reduceIte, Tryz.f73]
 refine ⟨_, _, bI _ _, k2, S2, t2, c2, rfl, hR3, by omega, b2, ?_⟩
 rw [aCO h3 hk]
 exact a3.dP b3
theorem bAW {p : aE} (hp : p.ok) {inp : Int} {n : Nat} (hv : wE p inp n) {h0 h : aB} {nb st : Nat} {e : aC} {env : List Int} {S : dU} {funcs : Int} (hR : jI h0 nb p inp S st 0 h) (hst : st < 3000) (hn : 3001 ≤ n + 1 + st)
  (hok : e.ok p funcs env.length) (fN : 0 ≤ funcs) (hf : funcs ≤ p.aI.length) (hg : Good inp S st) (henv : ∀ x ∈ env, p9 S x) (hel : env.length ≤ 412 + st) (hk : e.aP = 11) :
  iH Tryz.prog 73 [.op nb 8 0 0, .agg e.c, ints env] h (aD6 h0 nb p inp st 0 (fC p (n + 1) st e env S)) := by
 obtain ⟨om, og, ov, H⟩ := hR
 rw [aC.aU]
 have hb := H.box
 unfold c4 at hb
 have e3 : ((st : Int) = 3000) = False := eq_false (by omega)
 have ew : IntKind.i64.wrap ((st : Int) + 1) = ((st + 1 : Nat) : Int) := by rw [IntWalk.i64_in _ (by omega)]; rfl
 have hnode := (aC.dB _ _ _ _).1 hok
 have h3 : ¬ st = 3000 := by omega
 have hcap := hg.cap
 have hgcap := hg.yB
 have o9 := hg.uF (Nat.le_succ st)
 have hR1 : jI h0 nb p inp S (st + 1) 0 (aR h nb (c4 p inp S om og ov (st + 1) 0)) := ⟨_, _, _, H.set (st + 1) 0⟩
 obtain ⟨f, F⟩ := m6 hp hok hf (.inr hk)
 have hkl : e.aN.length ≤ 1048576 := by have := F.kids; have := F.params; omega
 have f1 := F.lo
 have f2 := F.hi
 have f3 := F.pk
 have f4 := F.pk2
 have f5 := F.kids
 have f6 := F.params
 have f7 := F.loop hk
 have f8 := F.outs
 refine j4 190 rF aD7 aD8 mix Tryz.func73 rfl (by kernel_rfl) (by simp) ?_
 simp -dsimp -implicitDefEqProofs only [go_sem, ↓reduceIte, Tryz.f73, hb, e3, ew, hk]
 refine aH.fG (sR hp hv h0 _ nb (st + 1) 0 e.aN env S funcs hR1 (by omega) (by omega) hkl (eY hok (by omega)) fN hf (fun _ => ⟨o9, henv⟩) (by omega)) ?_
 rintro r h' ⟨vs, S1, t1, c1, rfl, ⟨om1, og1, ov1, H1⟩, hvl, a1, a2, a3⟩
 have sQ := H1.box
 unfold c4 at sQ
 simp -dsimp -implicitDefEqProofs only [go_sem, ↓reduceIte, Tryz.f73, sQ]
 refine ⟨fun hc => ?_, fun hc => ?_⟩
 ·refine ⟨_, _, bI _ _, 0, S1, t1, c1, rfl, ⟨_, _, _, H1⟩, by omega, a2, ?_⟩
  rw [aCP h3 hk]
  exact a3.dP (by rw [iA _ hc]; exact eO _ _ hc)
 subst hc
 obtain ⟨_, e2⟩ := a3.ok rfl
 obtain ⟨q1, q2, q3, q4⟩ := nX hp o9 (by omega) henv (eY hok (by omega)) hf _ _ e2
 simp only at q1 q2 q3
 try simp -dsimp -implicitDefEqProofs only [go_sem, ↓reduceIte, Tryz.f73, hk]
 have hiter : ∀ (k : Nat) (us : List Int) (S2 : dU) (t : Nat) (c : Int), jF (sI (fun vs t S => rD (fun t e S => fC p n t e vs S) (p.outs e.bC) t S) k vs t1 S1) (us, S2) t c → k ≤ e.cD.toNat → (¬ c = 0 ∨ k = e.cD.toNat) → jF (oT 0 (fC p (n + 1) st e env S)) (us.getD e.cR.toNat 0, S2) t c := fun k us S2 t c ho hk1 hor => by
  rw [aCP h3 hk]
  refine a3.dP ?_
  rw [cU]
  refine jF.then (v := (us, S2)) (t := t) (c := c) ?_ (gO _ _ _)
  rcases hor with hc | rfl
  ·have := ho.err hc
   rw [aVJ _ k hk1 this]
   exact eO _ _ hc
  ·exact ho
 have hfl : ∀ us t S2, Good inp S2 t → (us.length = f.aQ.length ∧ ∀ x ∈ us, p9 S2 x) → t ≤ 3000 → uG (aAO inp S2 t f.aQ.length) (rD (fun t e S => fC p n t e us S) (p.outs e.bC) t S2) := fun us w S2 hg' hv' hw => by
  rw [F.eq]
  exact nX hp hg' hw hv'.2 (funcs := e.bC) (fun x hx => by rw [hv'.1, f7.2.2]; exact F.oks x hx) (by omega)
 refine cS (keep := rF) (ib := aD7) (mk := aD8) mix (by kernel_rfl) (fun x : Nat × List Int × Nat × Int × dU × aB => [(0, .op nb 8 0 0), (4, .ip 5 [[I 11, I e.bC, I e.cR, I e.cD, eZ 5 aC.c e.aN]] 0 0), (9, ints x.2.1), (10, I x.1)]) (fun x => x.2.2.2.2.2) (fun x => x.1 ≤ e.cD.toNat ∧ x.2.1.length = f.aQ.length ∧ t1 ≤ x.2.2.1 ∧ x.2.2.1 ≤ 3000 ∧ jF (sI (fun vs t S => rD (fun t e S => fC p n t e vs S) (p.outs e.bC) t S) x.1 vs t1 S1) (x.2.1, x.2.2.2.2.1) x.2.2.1 x.2.2.2.1 ∧ jI h0 nb p inp x.2.2.2.2.1 x.2.2.1 x.2.2.2.1 x.2.2.2.2.2) (fun x => e.cD.toNat - x.1) (0, vs, t1, 0, S1, h') ⟨by simp [cV, bZ], aB.le_refl _, Nat.zero_le _, by simp only; omega, Nat.le_refl _, a2, lB _ _, ⟨_, _, _, H1⟩⟩ ?_
 rintro ⟨k, us, t, c, S2, g⟩ ⟨hk1, hul, ht0, ht, ho, ⟨om2, og2, ov2, H2⟩⟩
 simp only at hk1 hul ht0 ht ho H2 ⊢
 have vK := H2.box
 unfold c4 at vK
 have gp : us[e.cR.toNat]? = some (us.getD e.cR.toNat 0) := dS (by omega)
 simp -dsimp -implicitDefEqProofs only [go_sem, ↓reduceIte, Tryz.f73, vK, F.get, aT.aU, gp]
 refine ⟨fun hlt => ⟨fun hc => ⟨f1, f2, ?_⟩, fun hc => ?_⟩, fun hge => ?_⟩
 ·subst hc
  obtain ⟨_, e3⟩ := jF.ok (c := 0) (by rw [cU]; exact ho) rfl
  obtain ⟨w1, w2, w3, w4⟩ := wB hfl k vs t1 S1 q1 ⟨by omega, q3.2⟩ a2 _ _ e3
  simp only at w1 w2 w3
  refine aH.fG (sR hp hv h0 _ nb t 0 f.aQ us S2 e.bC ⟨_, _, _, H2⟩ ht (by omega) (by omega) (by rw [hul, f7.2.2]; exact F.oks) f1 (by omega) (fun _ => ⟨w1, w3.2⟩) (by omega)) ?_
  rintro r h2 ⟨l2, S3, t2, c2, rfl, hR3, hl2, b1, b2, b3⟩
  simp -dsimp -implicitDefEqProofs only [go_sem, ↓reduceIte, Tryz.f73]
  refine ⟨(k + 1, l2, t2, c2, S3, h2), ⟨rfl, by rw [IntWalk.i64_in _ (by omega)]; rfl⟩, aB.le_refl _, ⟨by omega, hl2, by simp only; omega, b2, ?_, hR3⟩, by simp only; omega⟩
  simp only
  rw [aA6]
  refine ho.then ?_
  rw [F.eq]
  exact b3
 ·exact ⟨f3, by omega, _, _, bI _ _, _, S2, t, c, rfl, ⟨_, _, _, H2⟩, by omega, ht, hiter k us S2 t c ho hk1 (.inl hc)⟩
 ·exact ⟨f3, by omega, _, _, bI _ _, _, S2, t, c, rfl, ⟨_, _, _, H2⟩, by omega, ht, hiter k us S2 t c ho hk1 (.inr (by omega))⟩
theorem reg {p : aE} (hp : p.ok) {inp : Int} : ∀ n, wE p inp n
 |0 => fun h0 h nb st c e env S funcs hb hst hn => by omega
 |n + 1 => fun h0 h nb st c e env S funcs hb hst hn hok fN hf hgo hel => by
  have hv := reg hp (inp := inp) n
  by_cases hs : ¬ c = 0 ∨ st = 3000
  ·exact aY9 hb hst hs
  have hc : c = 0 := Classical.byContradiction fun q => hs (.inl q)
  have h3 : st < 3000 := by
   rcases Nat.lt_or_ge st 3000 with h | h
   ·exact h
   ·exact absurd (.inr (by omega)) hs
  subst hc
  obtain ⟨hg, henv⟩ := hgo rfl
  rcases rA ((aC.dB _ _ _ _).1 hok).1 with hk | hk | hk | hk | hk | hk | hk | hk | hk | hk | hk
  ·exact bIL hp hv hb h3 hn hok fN hf hg henv hel hk
  ·exact bIM hp hv hb h3 hn hok fN hf hg henv hel hk
  ·exact bIP hp hv hb h3 hn hok fN hf hg henv hel hk
  ·exact bIQ hp hv hb h3 hn hok fN hf hg henv hel hk
  ·exact bIR hp hv hb h3 hn hok fN hf hg henv hel hk
  ·exact bIS hp hv hb h3 hn hok fN hf hg henv hel hk
  ·exact bIT hp hv hb h3 hn hok fN hf hg henv hel hk
  ·exact bIO hp hv hb h3 hn hok fN hf hg henv hel hk
  ·exact bIN hp hv hb h3 hn hok fN hf hg henv hel hk
  ·exact bAV hp hv hb h3 hn hok fN hf hg henv hel hk
  ·exact bAW hp hv hb h3 hn hok fN hf hg henv hel hk
set_option maxRecDepth 100000
open Go.Proofs
set_option linter.unusedVariables false
set_option linter.unusedSimpArgs false
structure jS where
 dH : Int
 aS : List bQ
 iC : List gI
 aQ : List Int
def jS.c (x : jS) : List aD := [I x.dH, eZ 4 bQ.c x.aS, eZ 2 gI.c x.iC, ints x.aQ]
theorem jS.aU (x : jS) : x.c = [I x.dH, eZ 4 bQ.c x.aS, eZ 2 gI.c x.iC, ints x.aQ] := rfl
def qC (p : aE) (f : Int) (args : List Int) : jS × Int := match aH0 p f args with
 | .ok ((l, S), _) => (⟨args.length, S.code, S.guards, l⟩, 0)
 | .error c => (⟨0, [], [], []⟩, c)
theorem wD.seal {bx : dU → Option Nat → Option Nat → Option Nat → bP} {h0 h F hh : aB} {nb : Nat} {inp : Int} {S : dU} {om og ov : Option Nat} (H : wD bx h0 nb S om og ov h) (l : List Int) (d : Int)
  (hF : ∀ n, some n = om ∨ some n = og → F n = h n) (hl : hh.le F) (hn : ∀ n, some n = om ∨ some n = og → hh n = none) :
  Shift (.iI [.agg [I inp, jR 4 S.code.length om, jR 2 S.guards.length og, ints l], I d]) F (.iI [.agg [I inp, eZ 4 bQ.c S.code, eZ 2 gI.c S.guards, ints l], I d]) hh := by
 have hc := H.code
 have hg := H.gds
 have ap := H.apart
 cases om with
 |none =>
  have hc0 : S.code = [] := nQ.1 hc
  cases og with
  |none =>
   have hg0 : S.guards = [] := nQ.1 hg
   rw [hc0, hg0]
   exact Shift.of (Sub.iI (.cons (Sub.agg (.cons (.refl _) (.cons (Sub.nil _ _) (.cons (Sub.nil _ _) (.cons (.refl _) .nil))))) (.cons (.refl _) .nil))) hl
  |some g =>
   have hgF := (hF g (.inr rfl)).trans hg.2
   rw [hc0]
   refine Shift.trans (Shift.of (Sub.iI (.cons (Sub.agg (.cons (.refl _) (.cons (Sub.nil 4 false) (.cons (.refl _) (.cons (.refl _) .nil))))) (.cons (.refl _) .nil))) (aB.le_refl F)) ?_
   refine l7 (n := g) (sz := 2) (S.guards.map gI.c) (hn g (.inr rfl)) ?_ (by simp [fY, fZ, jR]) ?_
   ·intro q
    by_cases e : q = g
    ·subst e; right; rw [aG]; exact hgF.symm
    ·rw [aA _ _ _ _ e]; exact hl q
   ·simp [aD.fE, lV, jR, List.take_of_length_le]
 |some m =>
  have hmF := (hF m (.inl rfl)).trans hc.2
  cases og with
  |none =>
   have hg0 : S.guards = [] := nQ.1 hg
   rw [hg0]
   refine Shift.trans (Shift.of (Sub.iI (.cons (Sub.agg (.cons (.refl _) (.cons (.refl _) (.cons (Sub.nil 2 false) (.cons (.refl _) .nil))))) (.cons (.refl _) .nil))) (aB.le_refl F)) ?_
   refine l7 (n := m) (sz := 4) (S.code.map bQ.c) (hn m (.inl rfl)) ?_ (by simp [fY, fZ, jR]) ?_
   ·intro q
    by_cases e : q = m
    ·subst e; right; rw [aG]; exact hmF.symm
    ·rw [aA _ _ _ _ e]; exact hl q
   ·simp [aD.fE, lV, jR, List.take_of_length_le]
  |some g =>
   have hgF := (hF g (.inr rfl)).trans hg.2
   have hne : ¬ g = m := fun e => ((ap g).2.1 (by rw [e])).1 rfl
   refine Shift.trans (b := .iI [.agg [I inp, jR 4 S.code.length (some m), eZ 2 gI.c S.guards, ints l], I d]) (h2 := aR hh m (.row 4 (rowsOf bQ.c S.code))) ?_ ?_
   ·refine l7 (n := g) (sz := 2) (S.guards.map gI.c) (by rw [aA _ _ _ _ hne]; exact hn g (.inr rfl)) ?_ (by simp [fY, fZ, jR]; exact fun e => hne e.symm) ?_
    ·intro q
     by_cases e : q = g
     ·subst e; right; rw [aG]; exact hgF.symm
     ·rw [aA _ _ _ _ e]
      by_cases e2 : q = m
      ·subst e2; right; rw [aG]; exact hmF.symm
      ·rw [aA _ _ _ _ e2]; exact hl q
    ·have hne' : ¬ m = g := fun e => hne e.symm
     simp [aD.fE, lV, jR, List.take_of_length_le, hne']
   ·refine l7 (n := m) (sz := 4) (S.code.map bQ.c) (hn m (.inl rfl)) (aB.le_refl _) (by simp [fY, fZ, jR]) ?_
    simp [aD.fE, lV, jR, List.take_of_length_le]
theorem wD.keep {h0 h : aB} {nb : Nat} {bx : dU → Option Nat → Option Nat → Option Nat → bP} {S : dU} {om og ov : Option Nat} (H : wD bx h0 nb S om og ov h) {n : Nat} {o : bP} (hn : h0 n = some o) : h n = some o ∧ ¬ n = nb ∧ ¬ some n = om ∧ ¬ some n = og ∧ ¬ some n = ov := by
 have hne : ∀ q, ¬ (q = nb ∨ some q = om ∨ some q = og ∨ some q = ov) ∨ h0 q = .none := fun q => by
  by_cases e : q = nb ∨ some q = om ∨ some q = og ∨ some q = ov
  ·exact .inr (H.fresh q e)
  ·exact .inl e
 have h1 : ¬ (n = nb ∨ some n = om ∨ some n = og ∨ some n = ov) := by
  rcases hne n with e | e
  ·exact e
  ·rw [hn] at e; cases e
 have e1 : ¬ n = nb := fun e => h1 (.inl e)
 have e2 : ¬ some n = om := fun e => h1 (.inr (.inl e))
 have e3 : ¬ some n = og := fun e => h1 (.inr (.inr (.inl e)))
 have e4 : ¬ some n = ov := fun e => h1 (.inr (.inr (.inr e)))
 exact ⟨(H.upto n e1 e2 e3 e4).trans hn, e1, e2, e3, e4⟩
theorem wD.le {h0 h : aB} {nb : Nat} {bx : dU → Option Nat → Option Nat → Option Nat → bP} {S : dU} {om og ov : Option Nat} (H : wD bx h0 nb S om og ov h) : h0.le h := fun q => by
 cases e : h0 q with
 |none => exact .inl rfl
 |some o => right; exact (H.keep e).1.symm
theorem aRC {h0 : aB} {nb : Nat} (p : aE) (inp : Int) (hn : h0 nb = none) : jI h0 nb p inp ⟨[], [], []⟩ 0 0 (aR h0 nb (c4 p inp ⟨[], [], []⟩ none none none 0 0)) :=
 ⟨none, none, none, aG _ _ _, aH2 _ _ _ _, rfl, rfl, rfl, fun n h => (by rcases h with rfl | h | h | h; exact hn; cases h; cases h; cases h), fun n h1 _ _ _ => aA _ _ _ _ h1⟩
def aE8 (args : List Int) (k : Nat) : dU := ⟨(List.range k).map fun i : Nat => ⟨1, 0, 0, (i : Int)⟩, args.take k, []⟩
def aL0 (k : Nat) : List Int := (List.range k).map fun i : Nat => (i : Int)
theorem aZD (args : List Int) : aE8 args args.length = inS args := by rw [aE8, List.take_length]; rfl
theorem aJY {args : List Int} {k : Nat} (hk : k < args.length) : aE8 args (k + 1) = (aE8 args k).put ⟨1, 0, 0, (k : Int)⟩ args[k] := by
 rw [aE8, aE8, dU.put, List.range_succ, List.map_append, List.take_succ_eq_append_getElem hk]; rfl
theorem aVK (k : Nat) : aL0 (k + 1) = aL0 k ++ [(k : Int)] := by rw [aL0, aL0, List.range_succ, List.map_append]; rfl
@[go_sem] def aZE : List Nat := [0, 1, 2, 3, 6, 7, 8, 9, 10, 11, 12, 28, 30, 44, 45, 46, 47, 77]
@[go_sem] def bIU : List Nat := [3, 43, 57]
@[go_sem] def bIV : Marks := fun id => match id with | 6 => ([9], (.op 0 (.op 1 (.op 2 (.op 3 (.op 4 (.op 5 (.op 6 (.op 7 (.op 8 (.op 9 (.op 10 .nil))))))))))), []) | 15 => ([4, 5], (.op 0 (.op 1 (.op 2 (.op 3 (.op 4 (.op 5 (.op 6 .nil))))))), [(4, 5)]) | _ => ([], .nil, [])
theorem bAX {p : aE} (hp : p.ok) (hps : p.s ≤ 4194304) (f : Int) (hf : 0 ≤ f ∧ f < p.aI.length) (args : List Int) (ha : eD args) (bO6 : args.length ≤ 12) (hl : ∀ F, p.aI[f.toNat]? = some F → (args.length : Int) = F.aW) :
  fL Tryz.prog 18 [.agg p.c, I f, ints args] (.iI [.agg (qC p f args).1.c, I (qC p f args).2]) := by
 have hif := aXP p f hps
 obtain ⟨F, ef, hF1, hF2, hF3, hF4⟩ := kR hp hf
 have hla := hl F ef
 rw [if_pos hp, if_pos (by omega)] at hif
 simp only [aE.aU] at hif ⊢
 have han := kL args F.aW
 rw [decide_eq_true (show (args.length : Int) = F.aW ∧ eD args from ⟨hla, ha⟩)] at han
 refine rP 87 aZE bIU bIV mix Tryz.func18 rfl (by kernel_rfl) (by simp) fun h => ?_
 simp -dsimp -implicitDefEqProofs only [go_sem, ↓reduceIte, Tryz.f18, ef, aT.aU]
 intro n6 z6
 try simp -dsimp -implicitDefEqProofs only [go_sem, ↓reduceIte, Tryz.f18, ef, aT.aU]
 first | refine aH.mk (hif) ?_ | refine aF.mk (hif) ?_ | refine aH.bS (hif) ?_ | refine aF.mk (bM.eQ (hif)) ?_
 simp -dsimp -implicitDefEqProofs only [go_sem, ↓reduceIte, Tryz.f18, ef, aT.aU]
 refine ⟨hf.1, hf.2, ?_⟩
 first | refine aH.mk (han) ?_ | refine aF.mk (han) ?_ | refine aH.bS (han) ?_ | refine aF.mk (bM.eQ (han)) ?_
 simp -dsimp -implicitDefEqProofs only [go_sem, ↓reduceIte, Tryz.f18, ef, aT.aU]
 refine ⟨hf.1, hf.2, fun nb ⟨hb6, zb⟩ => ⟨Nat.zero_lt_one, fun _ => ?_⟩⟩
 have aL1 : ¬ nb = n6 := hb6
 have a32 : ¬ n6 = nb := Ne.symm aL1
 have aTW : (nb = n6) = False := eq_false aL1
 have aTX : (n6 = nb) = False := eq_false a32
 generalize hh6 : aR h n6 (.row 4 [[.v (.int .i64 0), .v .bH, .v .bH, .v .bH]]) = h6
 have zb6 : h6 nb = none := by rw [← hh6, aA _ _ _ _ aL1]; exact zb
 have hin := aRC (h0 := h6) p F.aW zb6
 refine cS (keep := aZE) (ib := bIU) (mk := bIV) mix (by kernel_rfl) (fun x : Nat × aB × Option Nat => [(1, I f), (3, .ip 1 [[eZ 3 aT.c p.aI]] 0 0), (6, .op n6 4 0 0), (9, .op nb 8 0 0), (10, jC 1 x.1 x.2.2), (44, ints args), (45, I args.length), (46, I x.1)]) (fun x => cK x.2.1 (.row 1 (((aL0 x.1).map fun n => [I n]).map (List.map .v))) x.2.2) (fun x => x.1 ≤ args.length ∧ jI h6 nb p F.aW (aE8 args x.1) 0 0 x.2.1 ∧ fK x.2.1 (aL0 x.1) x.2.2) (fun x => args.length - x.1) (0, aR h6 nb (c4 p F.aW ⟨[], [], []⟩ none none none 0 0), none) ⟨by simp [cV, bZ, jC], aB.le_refl _, Nat.zero_le _, hin, rfl⟩ ?_
 rintro ⟨k, g, o⟩ ⟨hk, hR, hos⟩
 simp only at hk hR hos ⊢
 have hel : (aL0 k).length = k := by simp [aL0]
 rcases Nat.lt_or_ge k args.length with hlt | hge
 ·have ek : args[k]? = some args[k] := List.getElem?_eq_getElem hlt
  have hsl : (aE8 args k).code.length = (aE8 args k).gQ.length := by simp [aE8]; omega
  have hvl : (aE8 args k).gQ.length = k := by simp [aE8]; omega
  have hy := aVK k
  cases o with
  |none =>
   rw [bD] at hos
   have k0 : k = 0 := by rw [← hel, hos]; rfl
   subst k0
   simp -dsimp -implicitDefEqProofs only [go_sem, ↓reduceIte, Tryz.f18, bO, aO, hlt, ek]
   refine aH.fG (aH3 hR ⟨1, 0, 0, ((0 : Nat) : Int)⟩ args[0] hsl (by omega)) ?_
   rintro r h' ⟨rfl, hR2⟩
   simp -dsimp -implicitDefEqProofs only [go_sem, ↓reduceIte, Tryz.f18]
   refine ⟨Nat.zero_lt_one, Nat.zero_lt_one, Nat.zero_lt_one, fun b vK => ⟨(1, h', some b), ⟨rfl, by rw [IntWalk.i64_in _ (by omega)]; rfl⟩, ?_, ⟨hlt, by rw [aJY hlt]; exact hR2, vK⟩, by simp only; omega⟩⟩
   rw [hvl]
   exact aB.le_refl _
  |some m =>
   rw [aV] at hos
   simp -dsimp -implicitDefEqProofs only [go_sem, ↓reduceIte, Tryz.f18, aX, aJ, hlt, ek]
   refine aH.fG (aH3 (hR.aPH hos) ⟨1, 0, 0, (k : Int)⟩ args[k] hsl (by omega)) ?_
   rintro r h' ⟨rfl, hR2⟩
   obtain ⟨g2, rfl, hg2, hR2⟩ := hR2.base (hR.none hos)
   simp -dsimp -implicitDefEqProofs only [go_sem, ↓reduceIte, Tryz.f18]
   refine ⟨Nat.zero_lt_one, Nat.zero_lt_one, Nat.zero_lt_one, Nat.le_of_eq hel.symm, by omega, by omega, fun b ⟨hbm, vK⟩ => ⟨(k + 1, g2, some b), ⟨rfl, by rw [IntWalk.i64_in _ (by omega)]; rfl⟩, ?_, ⟨hlt, by rw [aJY hlt]; exact hR2, vK⟩, by simp only; omega⟩⟩
   simp only [aJ]
   rw [hvl, hy, ← fI (fun n => I n), hel]
   exact kU hg2
 ·have hk' : k = args.length := by omega
  subst hk'
  rw [aZD] at hR
  have hg0 := aHZ args ha bO6
  rw [hla] at hg0
  have hie : aL0 args.length = inE args := rfl
  have hall : ∀ {h0 g : aB}, jI h0 nb p F.aW (inS args) 0 0 g → iH Tryz.prog 41 [.op nb 8 0 0, eZ 5 aC.c F.aQ, ints (inE args)] g (a7D h0 nb p F.aW 0 0 F.aQ.length (rD (fun t e S => fC p 3001 t e (inE args) S) F.aQ 0 (inS args))) := fun hR =>
   sR hp (reg hp 3001) _ _ nb 0 0 F.aQ (inE args) (inS args) f hR (by omega) (by omega) (by omega) (fun x hx => by rw [← hie, hel, hla]; exact hF4 x hx) hf.1 (by omega) (fun _ => ⟨hg0, aRA args⟩) (by rw [← hie, hel]; omega)
  cases o with
  |none =>
   rw [bD, hie] at hos
   simp -dsimp -implicitDefEqProofs only [go_sem, ↓reduceIte, Tryz.f18, bO, aO, Nat.lt_irrefl, Int.lt_irrefl, ef, aT.aU]
   refine ⟨hf.1, hf.2, aH.fG (iH.sub (.cons (.refl _) (.cons (.refl _) (.cons (by rw [hos]; exact Sub.loose _ _ _) .nil))) (hall hR)) ?_⟩
   rintro r h2 ⟨l, S2, t2, c2, rfl, ⟨om, og, ov, H2⟩, hll, a1, a2, a3⟩
   have vK := H2.box
   unfold c4 at vK
   have hz := H2.keep (n := n6) (by rw [← hh6, aG])
   have hz1 := hz.1
   simp -dsimp -implicitDefEqProofs only [go_sem, ↓reduceIte, Tryz.f18, vK, hz1, aTW, aTX, aA]
   generalize hE : h2 = h2H at *
   have hle : h.le h2H := by
    have h1 := H2.le
    rw [← hh6] at h1
    intro q
    by_cases e : q = n6
    ·subst e; exact .inl z6
    ·have := h1 q
     rwa [aA _ _ _ _ e] at this
   have hfr : ∀ n, some n = om ∨ some n = og → h n = none ∧ ¬ n = n6 ∧ ¬ n = nb := fun n hn => by
    have h1 := H2.fresh n (by rcases hn with hn | hn; exact .inr (.inl hn); exact .inr (.inr (.inl hn)))
    have h3 : ¬ n = n6 := fun e => by rw [← hh6, e, aG] at h1; cases h1
    refine ⟨by rwa [← hh6, aA _ _ _ _ h3] at h1, h3, fun e => ?_⟩
    rcases hn with hn | hn
    ·exact ((H2.apart n).1 e).1 hn
    ·exact ((H2.apart n).1 e).2.1 hn
   refine ⟨fun hc => ?_, fun hc => ⟨by rw [mT, mT]; rfl, ?_⟩⟩
   ·have e2 : qC p f args = (⟨0, [], [], []⟩, c2) := by
     rw [cU] at a3
     rw [qC, aH0, hF3, a3.err hc]
    rw [e2]
    exact Shift.of (Sub.iI (.cons (Sub.agg (.cons (.refl _) (.cons (Sub.nil 4 false) (.cons (Sub.nil 2 false) (.cons (Sub.nil 1 false) .nil))))) (.cons (.refl _) .nil))) (aB.aY z6 (aB.aY zb (hle)))
   ·obtain ⟨_, e1⟩ := a3.ok hc
    have e2 : qC p f args = (⟨args.length, S2.code, S2.guards, l⟩, 0) := by
     rw [qC, aH0, hF3, e1]
    rw [e2, jS.aU, hla]
    refine H2.seal l 0 (fun n hn => ?_) (aB.aY z6 (aB.aY zb (hle))) (fun n hn => (hfr n hn).1)
    obtain ⟨v1, v2, v3⟩ := hfr n hn
    rw [aA _ _ _ _ v2, aA _ _ _ _ v3]
  |some m =>
   rw [aV] at hos
   simp -dsimp -implicitDefEqProofs only [go_sem, ↓reduceIte, Tryz.f18, aX, aJ, Nat.lt_irrefl, Int.lt_irrefl, ef, aT.aU]
   have gC : ¬ nb = m := fun e => by obtain ⟨_, _, _, H1⟩ := hR; have := H1.box; rw [e, hos] at this; cases this
   have fU : ¬ m = nb := Ne.symm gC
   have iG : (nb = m) = False := eq_false gC
   have iF : (m = nb) = False := eq_false fU
   refine ⟨hf.1, hf.2, aH.aYG rfl rfl gC (by rw [List.length_map]; exact hel.symm) hos ?_⟩
   refine iH.mono (hall (hR.aPH (o := .gone) hos)) ?_
   rintro r h2 ⟨l, S2, t2, c2, rfl, hR2, hll, a1, a2, a3⟩
   obtain ⟨g3, rfl, hg3, ⟨om, og, ov, H2⟩⟩ := hR2.base (hR.none hos)
   have vK := H2.box
   unfold c4 at vK
   have hz := H2.keep (n := n6) (by rw [← hh6, aG])
   have hz1 := hz.1
   have aRD : ¬ n6 = m := fun e => by rw [e, hg3] at hz1; cases hz1
   have bAY : ¬ m = n6 := Ne.symm aRD
   have bAZ : (n6 = m) = False := eq_false aRD
   have bA0 : (m = n6) = False := eq_false bAY
   simp -dsimp -implicitDefEqProofs only [go_sem, ↓reduceIte, Tryz.f18, vK, hz1, aTW, iG, aTX, bAZ, iF, bA0, aA]
   have hgo : ∀ n, some n = om ∨ some n = og → ¬ n = m := fun n hn e => by
    have := (H2.apart n).2.2.2 (by rw [e]; exact hg3)
    rcases hn with hn | hn
    ·exact this.2.1 hn
    ·exact this.2.2.1 hn
   have hhm : h m = none := by
    have h1 := hR.none hos
    rw [← hh6, aA _ _ _ _ (fun e => aRD e.symm)] at h1
    exact h1
   generalize hE : g3 = h2H at *
   have hle : h.le h2H := by
    have h1 := H2.le
    rw [← hh6] at h1
    intro q
    by_cases e : q = n6
    ·subst e; exact .inl z6
    ·have := h1 q
     rwa [aA _ _ _ _ e] at this
   have hfr : ∀ n, some n = om ∨ some n = og → h n = none ∧ ¬ n = n6 ∧ ¬ n = nb := fun n hn => by
    have h1 := H2.fresh n (by rcases hn with hn | hn; exact .inr (.inl hn); exact .inr (.inr (.inl hn)))
    have h3 : ¬ n = n6 := fun e => by rw [← hh6, e, aG] at h1; cases h1
    refine ⟨by rwa [← hh6, aA _ _ _ _ h3] at h1, h3, fun e => ?_⟩
    rcases hn with hn | hn
    ·exact ((H2.apart n).1 e).1 hn
    ·exact ((H2.apart n).1 e).2.1 hn
   refine ⟨fun hc => ?_, fun hc => ⟨by rw [mT, mT]; rfl, ?_⟩⟩
   ·have e2 : qC p f args = (⟨0, [], [], []⟩, c2) := by
     rw [cU] at a3
     rw [qC, aH0, hF3, a3.err hc]
    rw [e2]
    exact Shift.of (Sub.iI (.cons (Sub.agg (.cons (.refl _) (.cons (Sub.nil 4 false) (.cons (Sub.nil 2 false) (.cons (Sub.nil 1 false) .nil))))) (.cons (.refl _) .nil))) (aB.aY z6 (aB.aY zb (aB.aY hhm hle)))
   ·obtain ⟨_, e1⟩ := a3.ok hc
    have e2 : qC p f args = (⟨args.length, S2.code, S2.guards, l⟩, 0) := by
     rw [qC, aH0, hF3, e1]
    rw [e2, jS.aU, hla]
    refine H2.seal l 0 (fun n hn => ?_) (aB.aY z6 (aB.aY zb (aB.aY hhm hle))) (fun n hn => (hfr n hn).1)
    obtain ⟨v1, v2, v3⟩ := hfr n hn
    rw [aA _ _ _ _ v2, aA _ _ _ _ v3, aA _ _ _ _ (hgo n hn)]
open Go.Proofs
set_option linter.unusedVariables false
set_option linter.unusedSimpArgs false
open Go.Proofs
set_option linter.unusedVariables false
set_option linter.unusedSimpArgs false
open Go.Proofs
set_option linter.unusedVariables false
set_option linter.unusedSimpArgs false
open Go.Proofs
set_option linter.unusedVariables false
set_option linter.unusedSimpArgs false
def opW (k : Int) (a b : List Int) : List Int := if k = 3 then j5 a b else if k = 4 then aLC a b else if k = 5 then mulL a b else if k = 7 then lY a 1000002 else lA a b
def opS (sz : Nat) (args rs : List (List Int)) (c : bQ) : List Int := if c.j0 = 1 then args.getD c.bC.toNat [] else if c.j0 = 2 then lP c.bC sz else opW c.j0 (rs.getD c.fA.toNat []) (rs.getD c.fB.toNat [])
def pG (sz : Nat) (args : List (List Int)) (code : List bQ) : Nat → List (List Int)
 |0 => []
 |k + 1 => pG sz args code k ++ [opS sz args (pG sz args code k) (code.getD k ⟨0, 0, 0, 0⟩)]
theorem lE (sz : Nat) (args : List (List Int)) (code : List bQ) : ∀ k, (pG sz args code k).length = k
 |0 => rfl
 |k + 1 => by rw [pG, List.length_append, lE sz args code k]; rfl
theorem wF (sz : Nat) (args : List (List Int)) (code : List bQ) {r k : Nat} (hr : r < k) : ∀ n, k ≤ n → (pG sz args code n).getD r [] = (pG sz args code k).getD r []
 |0, h => by omega
 |n + 1, h => by
  rcases Nat.lt_or_ge n k with h1 | h1
  ·have : k = n + 1 := by omega
   rw [this]
  ·rw [← wF sz args code hr n h1, pG, List.getD_eq_getElem?_getD, List.getElem?_append_left (by rw [lE]; omega), List.getD_eq_getElem?_getD]
def qD (sz : Nat) (args : List (List Int)) (code : List bQ) (r : Nat) : List Int := (pG sz args code code.length).getD r []
theorem aRE {sz : Nat} {args : List (List Int)} {code : List bQ} {k : Nat} {c : bQ} (e : code[k]? = some c) : qD sz args code k = opS sz args (pG sz args code k) c := by
 have h := (List.getElem?_eq_some_iff.1 e).1
 rw [qD, wF sz args code (Nat.lt_succ_self k) code.length h, pG, List.getD_eq_getElem?_getD, List.getElem?_append_right (by rw [lE]; exact Nat.le_refl _), lE, Nat.sub_self, List.getD_eq_getElem?_getD, e]; rfl
theorem aRF {sz : Nat} {args : List (List Int)} {code : List bQ} {k : Nat} {c : bQ} (e : code[k]? = some c) (h1 : c.j0 = 1) : qD sz args code k = args.getD c.bC.toNat [] := by rw [aRE e, opS, if_pos h1]
theorem aL2 {sz : Nat} {args : List (List Int)} {code : List bQ} {k : Nat} {c : bQ} (e : code[k]? = some c) (h1 : c.j0 = 2) : qD sz args code k = lP c.bC sz := by rw [aRE e, opS, if_neg (by omega), if_pos h1]
theorem aRG {sz : Nat} {args : List (List Int)} {code : List bQ} {inp : Int} {k : Nat} {c : bQ} (e : code[k]? = some c) (hi : cH inp k c) (h1 : ¬ c.j0 = 1) (h2 : ¬ c.j0 = 2) : qD sz args code k = opW c.j0 (qD sz args code c.fA.toNat) (qD sz args code c.fB.toNat) := by
 have h := (List.getElem?_eq_some_iff.1 e).1
 unfold cH at hi
 rw [aRE e, opS, if_neg h1, if_neg h2, qD, qD, wF sz args code (k := k) (by omega) code.length (by omega), wF sz args code (k := k) (by omega) code.length (by omega)]
theorem a33 {sz : Nat} (k : Int) {a b : List Int} (ha : bN sz a) (hb : bN sz b) : bN sz (opW k a b) := by
 unfold opW
 repeat' split
 ·exact q0 ha hb
 ·exact zM ha hb
 ·exact hH _ ha
 ·exact fS _ ha
 ·exact pR _ ha
theorem zT {sz : Nat} {args : List (List Int)} {code : List bQ} {inp : Int} (hi : ∀ i c, code[i]? = some c → cH inp i c) (ha : ∀ s ∈ args, bN sz s) (hl : (args.length : Int) = inp) (k : Nat) (hk : k < code.length) : bN sz (qD sz args code k) := by
 induction k using Nat.strongRecOn with
 |ind k ih =>
  have e := List.getElem?_eq_getElem hk
  have hc := hi k _ e
  generalize code[k] = c at e hc
  by_cases h1 : c.j0 = 1
  ·rw [aRF e h1]
   unfold cH at hc
   exact iV ha (by omega)
  by_cases h2 : c.j0 = 2
  ·rw [aL2 e h2]
   have hn : jA c.bC := by rcases hc with q | q | q | q <;> first | exact q.2.2.2 | (have := q.1; omega)
   exact eX hn
  ·rw [aRG e hc h1 h2]
   unfold cH at hc
   exact a33 _ (ih _ (by omega) (by omega)) (ih _ (by omega) (by omega))
theorem bA1 {sz : Nat} (hsz : 1 ≤ sz) {k : Int} {a b : List Int} (ha : a.length = sz) (hb : b.length = sz) {v : Int} (h : opV k (a.getD 0 0) (b.getD 0 0) = some v) : (opW k a b).getD 0 0 = v := by
 obtain ⟨x, a', rfl⟩ : ∃ x a', a = x :: a' := by
  cases a with
  |nil => simp at ha; omega
  |cons x a' => exact ⟨x, a', rfl⟩
 obtain ⟨y, b', rfl⟩ : ∃ x a', b = x :: a' := by
  cases b with
  |nil => simp at hb; omega
  |cons x a' => exact ⟨x, a', rfl⟩
 have g : ∀ (z : Int) (l : List Int), (z :: l).getD 0 0 = z := fun _ _ => rfl
 rw [g, g] at h
 unfold opV at h
 unfold opW
 by_cases h3 : k = 3
 ·rw [if_pos h3] at h ⊢
  rw [← Option.some.inj h]; rfl
 rw [if_neg h3] at h ⊢
 by_cases h4 : k = 4
 ·rw [if_pos h4] at h ⊢
  rw [← Option.some.inj h]
  show (x + y * 1000002 % 1000003) % 1000003 = _
  omega
 rw [if_neg h4] at h ⊢
 by_cases h5 : k = 5
 ·rw [if_pos h5] at h ⊢
  obtain ⟨t, e⟩ := zN x a' (y :: b')
  rw [e, ← Option.some.inj h]; rfl
 rw [if_neg h5] at h ⊢
 by_cases h7 : k = 7
 ·rw [if_pos h7] at h ⊢
  rw [← Option.some.inj h]
  show x * 1000002 % 1000003 = _
  omega
 rw [if_neg h7] at h ⊢
 by_cases hy : y = 0
 ·rw [if_pos hy] at h; cases h
 ·rw [if_neg hy] at h
  obtain ⟨t, e⟩ := vY x a' (y :: b') a'.length
  rw [lA, List.length_cons, e, ← Option.some.inj h]; rfl
theorem then_ok {α β : Type} {x : Out α} {f : α → Nat → Out β} {w : β} {u : Nat} (h : x.andThen f = .ok (w, u)) : ∃ v t, x = .ok (v, t) ∧ f v t = .ok (w, u) := by
 cases x with
 |ok p => obtain ⟨v, t⟩ := p; exact ⟨v, t, rfl, h⟩
 |error c => cases h
structure a34 (inp : Int) (F : dU) (N : Nat → Prop) : Prop where
 ins : ∀ i c, F.code[i]? = some c → cH inp i c
 ops : ∀ (i : Nat) (c : bQ), F.code[i]? = some c → N i → (3 ≤ c.j0 ∧ c.j0 ≤ 6 → N c.fA.toNat ∧ N c.fB.toNat) ∧ (c.j0 = 7 → N c.fA.toNat)
 gds : ∀ g ∈ F.guards, N g.aIZ.toNat
 div : ∀ (i : Nat) (c : bQ), F.code[i]? = some c → c.j0 = 6 → N c.fB.toNat
def HD (rg : Nat → List Int) (N : Nat → Prop) (S : dU) : Prop := (∀ i, i < S.gQ.length → N i → (rg i).getD 0 0 = S.gQ.getD i 0) ∧ ∀ (i : Nat) (c : bQ), S.code[i]? = some c → c.j0 = 6 → ¬ S.val c.fB = 0
def aVL (rg : Nat → List Int) (F : dU) (N : Nat → Prop) (X : Out (Int × dU)) (Y : Out (List Int)) : Prop := ∀ r S' u, X = .ok ((r, S'), u) → S'.ext F → Y = .ok (rg r.toNat, u) ∧ HD rg N S'
def a35 (rg : Nat → List Int) (F : dU) (N : Nat → Prop) (X : Out (List Int × dU)) (Y : Out (List (List Int))) : Prop := ∀ r S' u, X = .ok ((r, S'), u) → S'.ext F → Y = .ok (r.map fun k => rg k.toNat, u) ∧ HD rg N S'
theorem wG {rg : Nat → List Int} {F : dU} {N : Nat → Prop} {ev : Nat → aC → dU → Out (Int × dU)} {ev' : Nat → aC → Out (List Int)} {inp : Int} : ∀ (l : List aC) (t : Nat) (S : dU), Good inp S t → t ≤ 3000 → HD rg N S → (∀ e ∈ l, ∀ u S', Good inp S' u → S.ext S' → pF S t S' u → uG (aHW inp S' u) (ev u e S') ∧ (HD rg N S' → aVL rg F N (ev u e S') (ev' u e))) → a35 rg F N (rD ev l t S) (lS ev' l t)
 | [], t, S, hg, ht, hd, _ => fun r S' u h _ => by
  cases h
  exact ⟨rfl, hd⟩
 |e :: l, t, S, hg, ht, hd, h => fun r S' u hx he => by
  obtain ⟨h1, h2⟩ := h e List.mem_cons_self t S hg S.tN (.refl ht)
  rw [rD] at hx
  obtain ⟨⟨r1, S1⟩, t1, e1, hx⟩ := then_ok hx
  obtain ⟨q1, q2, q3, q4⟩ := h1 _ _ e1
  simp only at hx q1 q2 q3 q4
  obtain ⟨⟨rs, S2⟩, t2, e2, hx⟩ := then_ok hx
  cases hx
  have hl := fun x hx u' S' a b c => h x (List.mem_cons_of_mem _ hx) u' S' a (q2.trans b) (q4.trans c)
  have hk := lD l t1 S1 q1 q4.2.2.2 (fun x hx u' S' a b c => (hl x hx u' S' a b c).1) _ _ e2
  obtain ⟨a1, a2⟩ := h2 hd r1 S1 t1 e1 (hk.2.1.trans he)
  obtain ⟨b1, b2⟩ := wG l t1 S1 q1 q4.2.2.2 a2 hl rs _ _ e2 he
  rw [lS, a1, Out.andThen_ok, b1]
  exact ⟨rfl, b2⟩
theorem aJZ {rg : Nat → List Int} {F : dU} {N : Nat → Prop} {f : List Int → Nat → dU → Out (List Int × dU)} {g : List (List Int) → Nat → Out (List (List Int))} {inp : Int} {m : Nat} (h : ∀ vs t S, Good inp S t → (vs.length = m ∧ ∀ x ∈ vs, p9 S x) → t ≤ 3000 → uG (aAO inp S t m) (f vs t S) ∧ (HD rg N S → a35 rg F N (f vs t S) (g (vs.map fun k => rg k.toNat) t))) :
  ∀ (n : Nat) (vs : List Int) (t : Nat) (S : dU), Good inp S t → (vs.length = m ∧ ∀ x ∈ vs, p9 S x) → t ≤ 3000 → HD rg N S → a35 rg F N (sI f n vs t S) (pQ g n (vs.map fun k => rg k.toNat) t)
 |0, vs, t, S, hg, hv, ht, hd => fun r S' u hx _ => by
  cases hx
  exact ⟨rfl, hd⟩
 |n + 1, vs, t, S, hg, hv, ht, hd => fun r S' u hx he => by
  obtain ⟨h1, h2⟩ := h vs t S hg hv ht
  rw [sI] at hx
  obtain ⟨⟨r1, S1⟩, t1, e1, hx⟩ := then_ok hx
  obtain ⟨q1, q2, q3, q4⟩ := h1 _ _ e1
  simp only at hx q1 q2 q3 q4
  have hk := wB (fun vs t S a b c => (h vs t S a b c).1) n r1 t1 S1 q1 q3 q4.2.2.2 _ _ hx
  obtain ⟨a1, a2⟩ := h2 hd r1 S1 t1 e1 (hk.2.1.trans he)
  obtain ⟨b1, b2⟩ := aJZ h n r1 t1 S1 q1 q3 q4.2.2.2 a2 r S' u hx he
  rw [pQ, a1, Out.andThen_ok, b1]
  exact ⟨rfl, b2⟩
theorem aZF {S F : dU} {inp : Int} {t : Nat} {c : bQ} {v : Int} (hg : Good inp S t) (he : (S.put c v).ext F) : F.code[S.gQ.length]? = some c := by
 obtain ⟨x, hx⟩ := he.1
 rw [← hx, dU.put, List.append_assoc, List.getElem?_append_right (by rw [hg.len]; exact Nat.le_refl _), hg.len, Nat.sub_self]; rfl
theorem HD.put {rg : Nat → List Int} {N : Nat → Prop} {S : dU} (h : HD rg N S) {inp : Int} {t : Nat} (hg : Good inp S t) {c : bQ} {v : Int} (hv : N S.gQ.length → (rg S.gQ.length).getD 0 0 = v) (hz : c.j0 = 6 → ¬ S.val c.fB = 0 ∧ p9 S c.fB) : HD rg N (S.put c v) := by
 refine ⟨fun i hi hn => ?_, fun i d hd h6 => ?_⟩
 ·rw [dU.put, List.length_append, List.length_singleton] at hi
  show _ = (S.gQ ++ [v]).getD i 0
  rw [List.getD_eq_getElem?_getD (l := S.gQ ++ [v])]
  rcases Nat.lt_or_ge i S.gQ.length with h1 | h1
  ·rw [List.getElem?_append_left h1, ← List.getD_eq_getElem?_getD]; exact h.1 i h1 hn
  ·obtain rfl : i = S.gQ.length := by omega
   rw [List.getElem?_append_right (Nat.le_refl _), Nat.sub_self]; exact hv hn
 ·have hx := S.aFV c v
  rcases Nat.lt_or_ge i S.code.length with h1 | h1
  ·rw [dU.put, List.getElem?_append_left h1] at hd
   have hin := hg.ins i d hd
   have hl := hg.len
   unfold cH at hin
   rw [hx.val (by omega) (by omega)]
   exact h.2 i d hd h6
  ·rw [dU.put, List.getElem?_append_right h1] at hd
   obtain ⟨h2, h3⟩ := List.getElem?_eq_some_iff.1 hd
   simp at h2 h3
   subst h3
   rw [hx.val (hz h6).2.1 (hz h6).2.2]
   exact (hz h6).1
theorem tO {rg : Nat → List Int} {l : List Int} {i : Nat} (hi : i < l.length) : (l.map fun k => rg k.toNat).getD i [] = rg (l.getD i 0).toNat := by
 simp [List.getD_eq_getElem?_getD, List.getElem?_eq_getElem hi]
theorem a36 {sz : Nat} (hsz : 1 ≤ sz) {args : List (List Int)} {inp : Int} {F : dU} {N : Nat → Prop} (C : a34 inp F N) (ha : ∀ s ∈ args, bN sz s) (hl : (args.length : Int) = inp) {k : Int} {vs : List Int} {S : dU} {t m : Nat} (hk : k = 3 ∨ k = 4 ∨ k = 5 ∨ k = 6 ∨ k = 7) (hm : vs.length = m ∧ ∀ x ∈ vs, p9 S x) (hm1 : 1 ≤ m) (hm2 : ¬ k = 7 → 2 ≤ m) (hg : Good inp S t) (hd : HD (qD sz args F.code) N S) : aVL (qD sz args F.code) F N (opR k vs S t) (opE k (vs.map fun k => qD sz args F.code k.toNat) t) := fun r S' u hx he => by
 have at_ : ∀ i, i < m → p9 S (vs.getD i 0) := fun i hi => by
  rw [List.getD_eq_getElem?_getD, List.getElem?_eq_getElem (by omega)]
  exact hm.2 _ (List.getElem_mem _)
 unfold opR at hx
 split at hx
 ·cases hx
 rename_i v hv
 cases hx
 have ec := aZF hg he
 have hin := C.ins _ _ ec
 have hrs := fun i (hi : i < F.code.length) => zT (sz := sz) C.ins ha hl i hi
 have hF : S.gQ.length < F.code.length := (List.getElem?_eq_some_iff.1 ec).1
 have e0 := aRG (sz := sz) (args := args) ec hin (by simp only; omega) (by simp only; omega)
 simp only at e0
 have i0 := at_ 0 (by omega)
 have iB : 0 ≤ opB k vs ∧ opB k vs < S.gQ.length := by
  unfold opB
  split
  ·unfold p9 at i0; omega
  ·rename_i h7
   exact at_ 1 (hm2 h7)
 have s0 := hrs (vs.getD 0 0).toNat (by unfold p9 at i0; omega)
 have s1 := hrs (opB k vs).toNat (by omega)
 have hN : N S.gQ.length → N (vs.getD 0 0).toNat ∧ (¬ k = 7 → N (opB k vs).toNat) := fun hn => by
  have ho := C.ops _ _ ec hn
  simp only at ho
  by_cases h7 : k = 7
  ·exact ⟨ho.2 h7, fun q => absurd h7 q⟩
  ·have h36 := ho.1 (by omega)
   exact ⟨h36.1, fun _ => h36.2⟩
 have hd0 : ∀ x : Int, 0 ≤ x ∧ x < S.gQ.length → N x.toNat → (qD sz args F.code x.toNat).getD 0 0 = S.val x := fun x hx hn => hd.1 x.toNat (by omega) hn
 have hzz : k = 6 → ¬ S.val (opB k vs) = 0 := fun q q2 => by
  rw [q2, q, opV, if_neg (by decide), if_neg (by decide), if_neg (by decide), if_neg (by decide), if_pos rfl] at hv
  cases hv
 refine ⟨?_, hd.put hg (fun hn => ?_) (fun q => ⟨hzz q, iB⟩)⟩
 ·rw [Int.toNat_natCast, e0]
  have g0 := tO (rg := qD sz args F.code) (l := vs) (i := 0) (by omega)
  unfold opE opW
  rcases hk with rfl | rfl | rfl | rfl | rfl
  all_goals simp only [reduceCtorEq, if_true, if_false, Int.reduceEq]
  ·rw [g0, tO (rg := qD sz args F.code) (i := 1) (by have := hm2 (by decide); omega)]; rfl
  ·rw [g0, tO (rg := qD sz args F.code) (i := 1) (by have := hm2 (by decide); omega)]; rfl
  ·rw [g0, tO (rg := qD sz args F.code) (i := 1) (by have := hm2 (by decide); omega)]; rfl
  ·have hdv := C.div _ _ ec rfl
   have e6 := hd0 _ iB hdv
   rw [show opB 6 vs = vs.getD 1 0 from rfl] at e6
   rw [g0, tO (rg := qD sz args F.code) (i := 1) (by have := hm2 (by decide); omega), e6]
   rw [show opB 6 vs = vs.getD 1 0 from rfl] at hv
   have hz : ¬ S.val (vs.getD 1 0) = 0 := fun q => by
    rw [opV, if_neg (by decide), if_neg (by decide), if_neg (by decide), if_neg (by decide), if_pos q] at hv
    cases hv
   rw [if_neg hz]; rfl
  ·rw [g0]
 ·obtain ⟨n0, n1⟩ := hN hn
  rw [e0]
  refine bA1 hsz s0.1 s1.1 ?_
  rw [hd0 _ i0 n0]
  by_cases h7 : k = 7
  ·subst h7
   rw [← hv]; rfl
  ·rw [hd0 _ iB (n1 h7)]; exact hv
theorem aPL {p : aE} (hp : p.ok) {sz : Nat} (hsz : 1 ≤ sz) {args : List (List Int)} {inp : Int} {F : dU} {N : Nat → Prop} (C : a34 inp F N) (ha : ∀ s ∈ args, bN sz s) (hl : (args.length : Int) = inp) : ∀ (n t : Nat) (e : aC) (env : List Int) (S : dU) (funcs : Int), e.ok p funcs env.length → funcs ≤ p.aI.length → Good inp S t → t ≤ 3000 → (∀ x ∈ env, p9 S x) → HD (qD sz args F.code) N S → aVL (qD sz args F.code) F N (fC p n t e env S) (iY p sz n t e (env.map fun k => qD sz args F.code k.toNat))
 |0, t, e, env, S, funcs, _, _, _, _, _, _ => fun r S' u hx _ => by rw [fC] at hx; cases hx
 |n + 1, t, e, env, S, funcs, hok, hf, hg, ht, henv, hd => by
  have ih := aPL hp hsz C ha hl n
  have io := uH hp (inp := inp) n
  have hnode := ((aC.dB _ _ _ _).1 hok).1
  by_cases h3 : t = 3000
  ·intro r S' u hx _
   rw [fC, if_pos h3] at hx; cases hx
  have o9 := hg.uF (Nat.le_succ t)
  have hcap := hg.cap
  have hgcap := hg.yB
  have henvE : ∀ {S'}, S.ext S' → ∀ x ∈ env, p9 S' x := fun e x hx => (henv x hx).ext e
  have kidsS : ¬ e.aP = 9 → ∀ x ∈ e.aN, ∀ u S', Good inp S' u → S.ext S' → pF S (t + 1) S' u → uG (aHW inp S' u) (fC p n u x env S') ∧ (HD (qD sz args F.code) N S' → aVL (qD sz args F.code) F N (fC p n u x env S') (iY p sz n u x (env.map fun k => qD sz args F.code k.toNat))) := fun h9 x hx u S' a b c =>
   ⟨io u x env S' funcs (eY hok h9 x hx) hf a c.2.2.2 (henvE b), fun hd' => ih u x env S' funcs (eY hok h9 x hx) hf a c.2.2.2 (henvE b) hd'⟩
  intro r S' u hx he
  rcases rA hnode with hk | hk | hk | hk | hk | hk | hk | hk | hk | hk | hk
  ·rw [aLW h3 hk] at hx
   rw [aO0 h3 hk]
   cases hx
   have ec := aZF hg he
   have er := aL2 (sz := sz) (args := args) ec rfl
   rw [Int.toNat_natCast, er]
   refine ⟨rfl, hd.put hg (fun _ => ?_) (fun q => absurd (show (2 : Int) = 6 from q) (by decide))⟩
   rw [er]
   obtain ⟨w, rfl⟩ : ∃ w, sz = w + 1 := ⟨sz - 1, by omega⟩
   simp [lP, List.replicate_succ]
  ·rw [aLX h3 hk] at hx
   rw [aO1 h3 hk]
   cases hx
   have hn := ((dO (by omega)).1 hnode).2.2.2.2.1 hk
   exact ⟨by rw [tO (by omega)], hd⟩
  iterate 5
   ·have hlen := dT hok (by omega)
    rw [hk] at hlen
    rw [nW h3 (by omega)] at hx
    rw [oU h3 (by omega)]
    have hs := kidsS (by omega)
    obtain ⟨⟨rs, S1⟩, t1, e1, hx⟩ := then_ok hx
    simp only at hx
    have hrk := lD _ _ S o9 (by omega) (fun x hx u S' a b c => (hs x hx u S' a b c).1) _ _ e1
    obtain ⟨r1, r2, r3, r4⟩ := hrk
    have hex : S1.ext S' := by
     have hx2 := hx
     unfold opR at hx2
     split at hx2
     ·cases hx2
     ·cases hx2; exact S1.aFV _ _
    obtain ⟨a1, a2⟩ := wG _ _ S o9 (by omega) hd hs _ _ _ e1 (hex.trans he)
    rw [a1, Out.andThen_ok]
    exact a36 hsz C ha hl (by omega) r3 (by unfold dR at hlen; simp at hlen; omega) (fun q => by unfold dR at hlen; simp at hlen; omega) r1 a2 _ _ _ hx he
  ·have hlen := dT hok (by omega)
   rw [hk, show dR 8 = 3 from rfl] at hlen
   have o0 := aC.eP hok (i := 0) (by omega)
   have o1 := aC.eP hok (i := 1) (by omega)
   have o2 := aC.eP hok (i := 2) (by omega)
   rw [hJ (by omega)] at o0 o1 o2
   rw [zC h3 hk] at hx
   rw [aHM h3 hk]
   obtain ⟨⟨rr, S1⟩, t1, e1, hx⟩ := then_ok hx
   simp only at hx
   obtain ⟨r1, r2, r3, r4⟩ := io _ _ _ _ _ o0 hf o9 (by omega) henv _ _ e1
   simp only at r1 r2 r3 r4
   have r4' := r4
   unfold pF at r4'
   have go : ∀ (b : Bool) (k : aC), k.ok p funcs env.length → fC p n t1 k env (S1.guard ⟨rr, b⟩) = .ok ((r, S'), u) → (S1.ext F ∧ N rr.toNat) ∧ (HD (qD sz args F.code) N S1 → iY p sz n t1 k (env.map fun k => qD sz args F.code k.toNat) = .ok (qD sz args F.code r.toNat, u) ∧ HD (qD sz args F.code) N S') := fun b k hk hq => by
    have hx1 : S1.ext (S1.guard ⟨rr, b⟩) := S1.rE _
    have hgd := r1.guard (b := b) r3 (by omega)
    obtain ⟨q1, q2, q3, q4⟩ := io t1 k env _ _ hk hf hgd (by omega) (henvE (r2.trans hx1)) _ _ hq
    simp only at q2
    refine ⟨⟨hx1.trans (q2.trans he), ?_⟩, fun hdd => ih t1 k env _ _ hk hf hgd (by omega) (henvE (r2.trans hx1)) hdd _ _ _ hq he⟩
    have hm : (⟨rr, b⟩ : gI) ∈ F.guards := by
     have h1 : (⟨rr, b⟩ : gI) ∈ (S1.guard ⟨rr, b⟩).guards := by simp [dU.guard]
     exact (q2.trans he).2.2.subset h1
    exact C.gds _ hm
   by_cases hz : S1.val rr = 0
   ·rw [if_pos hz] at hx
    obtain ⟨⟨g1, g2⟩, g3⟩ := go _ _ o1 hx
    obtain ⟨a1, a2⟩ := ih _ _ _ _ _ o0 hf o9 (by omega) henv hd _ _ _ e1 g1
    rw [a1, Out.andThen_ok, if_pos (by rw [a2.1 rr.toNat (by unfold p9 at r3; omega) g2]; exact hz)]
    exact g3 a2
   ·rw [if_neg hz] at hx
    obtain ⟨⟨g1, g2⟩, g3⟩ := go _ _ o2 hx
    obtain ⟨a1, a2⟩ := ih _ _ _ _ _ o0 hf o9 (by omega) henv hd _ _ _ e1 g1
    rw [a1, Out.andThen_ok, if_neg (by rw [a2.1 rr.toNat (by unfold p9 at r3; omega) g2]; exact hz)]
    exact g3 a2
  ·have hlen := dT hok (by omega)
   rw [hk, show dR 9 = 2 from rfl] at hlen
   have o0 := aC.eP hok (i := 0) (by omega)
   have o1 := aC.eP hok (i := 1) (by omega)
   rw [hJ (by omega)] at o0
   rw [hk, show iX 9 1 (env.length : Int) = env.length + 1 from rfl] at o1
   rw [aLY h3 hk] at hx
   rw [aO2 h3 hk]
   obtain ⟨⟨rr, S1⟩, t1, e1, hx⟩ := then_ok hx
   simp only at hx
   obtain ⟨r1, r2, r3, r4⟩ := io _ _ _ _ _ o0 hf o9 (by omega) henv _ _ e1
   simp only at r1 r2 r3 r4
   have bIW : ∀ x ∈ env ++ [rr], p9 S1 x := fun x hx => by
    rcases List.mem_append.1 hx with hx | hx
    ·exact henvE r2 x hx
    ·rw [List.mem_singleton.1 hx]; exact r3
   obtain ⟨q1, q2, q3, q4⟩ := io t1 (e.nN 1) (env ++ [rr]) S1 funcs (by rw [List.length_append]; exact o1) hf r1 r4.2.2.2 bIW _ _ hx
   obtain ⟨a1, a2⟩ := ih _ _ _ _ _ o0 hf o9 (by omega) henv hd _ _ _ e1 (q2.trans he)
   rw [a1, Out.andThen_ok]
   have := ih t1 (e.nN 1) (env ++ [rr]) S1 funcs (by rw [List.length_append]; exact o1) hf r1 r4.2.2.2 bIW a2 _ _ _ hx he
   rwa [List.map_append] at this
  ·obtain ⟨f, Fc⟩ := m6 hp hok hf (.inl hk)
   have f2 := Fc.hi
   have f4 := Fc.pk2
   rw [aCO h3 hk] at hx
   rw [aD1 h3 hk]
   have hs := kidsS (by omega)
   obtain ⟨⟨rs, S1⟩, t1, e1, hx⟩ := then_ok hx
   simp only at hx
   obtain ⟨r1, r2, r3, r4⟩ := lD _ _ S o9 (by omega) (fun x hx u S' a b c => (hs x hx u S' a b c).1) _ _ e1
   simp only at r1 r2 r3 r4
   have hco : (p.out e.bC e.cR).ok p e.bC rs.length := by rw [r3.1, Fc.kids]; exact Fc.oks _ (List.mem_of_getElem? Fc.out)
   obtain ⟨q1, q2, q3, q4⟩ := io t1 _ rs S1 e.bC hco (by omega) r1 r4.2.2.2 r3.2 _ _ hx
   obtain ⟨a1, a2⟩ := wG _ _ S o9 (by omega) hd hs _ _ _ e1 (q2.trans he)
   rw [a1, Out.andThen_ok]
   exact ih t1 _ rs S1 e.bC hco (by omega) r1 r4.2.2.2 r3.2 a2 _ _ _ hx he
  ·obtain ⟨f, Fc⟩ := m6 hp hok hf (.inr hk)
   have f2 := Fc.hi
   have f4 := Fc.pk2
   have f9 := Fc.loop hk
   rw [aCP h3 hk] at hx
   rw [aD2 h3 hk]
   have hs := kidsS (by omega)
   obtain ⟨⟨rs, S1⟩, t1, e1, hx⟩ := then_ok hx
   simp only at hx
   obtain ⟨r1, r2, r3, r4⟩ := lD _ _ S o9 (by omega) (fun x hx u S' a b c => (hs x hx u S' a b c).1) _ _ e1
   simp only at r1 r2 r3 r4
   obtain ⟨⟨rs2, S2⟩, t2, e2, hx⟩ := then_ok hx
   cases hx
   have hfl : ∀ vs t S, Good inp S t → (vs.length = f.aQ.length ∧ ∀ x ∈ vs, p9 S x) → t ≤ 3000 → uG (aAO inp S t f.aQ.length) (rD (fun t e S => fC p n t e vs S) (p.outs e.bC) t S) ∧ (HD (qD sz args F.code) N S → a35 (qD sz args F.code) F N (rD (fun t e S => fC p n t e vs S) (p.outs e.bC) t S) (lS (fun t e => iY p sz n t e (vs.map fun k => qD sz args F.code k.toNat)) (p.outs e.bC) t)) := fun vs w S' hg' hv hw => by
    rw [Fc.eq]
    have hx2 : ∀ x ∈ f.aQ, ∀ u S'', Good inp S'' u → S'.ext S'' → pF S' w S'' u → uG (aHW inp S'' u) (fC p n u x vs S'') ∧ (HD (qD sz args F.code) N S'' → aVL (qD sz args F.code) F N (fC p n u x vs S'') (iY p sz n u x (vs.map fun k => qD sz args F.code k.toNat))) := fun x hx u S'' a b c =>
     ⟨io u x vs S'' e.bC (by rw [hv.1, f9.2.2]; exact Fc.oks x hx) (by omega) a c.2.2.2 fun y hy => (hv.2 y hy).ext b, fun hdd => ih u x vs S'' e.bC (by rw [hv.1, f9.2.2]; exact Fc.oks x hx) (by omega) a c.2.2.2 (fun y hy => (hv.2 y hy).ext b) hdd⟩
    exact ⟨lD _ _ S' hg' hw fun x hx u S'' a b c => (hx2 x hx u S'' a b c).1, fun hdd => wG _ _ S' hg' hw hdd hx2⟩
   have uY : rs.length = f.aQ.length ∧ ∀ x ∈ rs, p9 S1 x := ⟨by have := r3.1; have := Fc.kids; omega, r3.2⟩
   have hk2 := wB (inp := inp) (m := f.aQ.length) (fun vs t S a b c => (hfl vs t S a b c).1) _ _ _ _ r1 uY r4.2.2.2 _ _ e2
   obtain ⟨a1, a2⟩ := wG _ _ S o9 (by omega) hd hs _ _ _ e1 (hk2.2.1.trans he)
   rw [a1, Out.andThen_ok]
   obtain ⟨b1, b2⟩ := aJZ (inp := inp) (m := f.aQ.length) (g := fun vs t => lS (fun t e => iY p sz n t e vs) (p.outs e.bC) t) hfl _ _ _ _ r1 uY r4.2.2.2 a2 _ _ _ e2 he
   rw [b1, Out.andThen_ok]
   exact ⟨by rw [tO (by have := hk2.2.2.1.1; simp only at this; omega)], b2⟩
theorem aVM {p : aE} (hp : p.ok) {sz : Nat} (hsz : 1 ≤ sz) {f : Int} (hf : 0 ≤ f ∧ f < p.aI.length) {l4 : List Int} (ha0 : eD l4) (hl0 : ∀ G, p.aI[f.toNat]? = some G → (l4.length : Int) = G.aW) {L : List Int} {F : dU} {u : Nat} (hX : aH0 p f l4 = .ok ((L, F), u)) {N : Nat → Prop} (C : a34 l4.length F N) {args : List (List Int)} (ha : ∀ s ∈ args, bN sz s) (hl : args.length = l4.length) (hd : ∀ i, i < l4.length → N i → (args.getD i []).getD 0 0 = l4.getD i 0) :
  vC p sz f args = .ok (L.map fun k => qD sz args F.code k.toNat, u) ∧ HD (qD sz args F.code) N F := by
 obtain ⟨G, ef, hF1, hF2, hF3, hF4⟩ := kR hp hf
 have hla := hl0 G ef
 have hg := aHZ l4 ha0 (by omega)
 have hin := aRA l4
 have hel : (inE l4).length = l4.length := by simp [inE]
 obtain ⟨q1, q2, q3, q4⟩ := (aFX hp f hf l4 ha0 hl0).1 _ _ hX
 simp only at q1 q2 q3 q4
 have hcode : ∀ i, i < l4.length → F.code[i]? = some ⟨1, 0, 0, (i : Int)⟩ := fun i hi => by
  obtain ⟨x, hx⟩ := q2.1
  rw [← hx, List.getElem?_append_left (by simp [inS]; exact hi)]
  simp [inS, hi]
 have hrg : ∀ i, i < l4.length → qD sz args F.code i = args.getD i [] := fun i hi => by
  rw [aRF (hcode i hi) rfl, Int.toNat_natCast]
 have hd0 : HD (qD sz args F.code) N (inS l4) := ⟨fun i hi hn => by
  have hi' : i < l4.length := hi
  rw [hrg i hi']; exact hd i hi' hn, fun i c hc h6 => by
  obtain ⟨h1, h2⟩ := List.getElem?_eq_some_iff.1 hc
  simp [inS] at h1 h2
  subst h2
  simp at h6⟩
 have hmap : (inE l4).map (fun k => qD sz args F.code k.toNat) = args := by
  apply List.ext_getElem
  ·rw [List.length_map, hel, hl]
  ·intro i h1 h2
   rw [List.getElem_map]
   have e1 : (inE l4)[i]'(by rw [hel]; omega) = (i : Int) := by simp [inE]
   rw [e1, Int.toNat_natCast, hrg i (by omega), List.getD_eq_getElem?_getD, List.getElem?_eq_getElem h2]; rfl
 have hx2 : ∀ x ∈ p.outs f, ∀ u S'', Good l4.length S'' u → (inS l4).ext S'' → pF (inS l4) 0 S'' u → uG (aHW l4.length S'' u) (fC p 3001 u x (inE l4) S'') ∧ (HD (qD sz args F.code) N S'' → aVL (qD sz args F.code) F N (fC p 3001 u x (inE l4) S'') (iY p sz 3001 u x args)) := fun x hx u S'' a b c => by
  have hxo : x.ok p f (inE l4).length := by rw [hel, hla]; exact hF4 x (by rw [← hF3]; exact hx)
  refine ⟨uH hp _ u x _ S'' f hxo (by omega) a c.2.2.2 fun y hy => (hin y hy).ext b, fun hdd => ?_⟩
  have := aPL hp hsz C ha (by omega) 3001 u x (inE l4) S'' f hxo (by omega) a c.2.2.2 (fun y hy => (hin y hy).ext b) hdd
  rwa [hmap] at this
 exact wG _ _ _ hg (by omega) hd0 hx2 _ _ _ hX F.tN
open Go.Proofs
set_option linter.unusedVariables false
set_option linter.unusedSimpArgs false
theorem aJ0 {a d : List Int} {i : Nat} (h1 : i < a.length) (h2 : i < d.length) : (cY a d).getD i [] = [a.getD i 0, d.getD i 0] := by
 rw [cY, List.getD_eq_getElem?_getD, List.getD_eq_getElem?_getD, List.getD_eq_getElem?_getD, List.getElem?_zipWith, List.getElem?_eq_getElem h1, List.getElem?_eq_getElem h2]; rfl
theorem aJ1 {n i k : Nat} (h : ¬ i = k) : (gF n i).getD k 0 = 0 := by
 rw [gF, List.getD_eq_getElem?_getD, List.getElem?_set_ne h, List.getElem?_replicate]
 split <;> rfl
theorem rG (n i : Nat) : (gF n i).length = n := by simp [gF]
theorem rH (n i : Nat) : eD (gF n i) := fun x hx => by
 rcases List.mem_or_eq_of_mem_set hx with hx | rfl
 ·rw [(List.mem_replicate.1 hx).2]; unfold jA; omega
 ·unfold jA; omega
theorem aVN {j : eI} (hj : j.ok) {k : Nat} (hk : k < j.cB.length) : (gT j k).aS = 0 ↔ (qC j.aZ j.cT (cQ j k)).2 = 0 := by
 obtain ⟨t1, t2, t3, t4, t5, t6, t7, t8⟩ := pE hj hk
 obtain ⟨F, eF, hf, hF, ok⟩ := pT hj
 have h := (aFX hj.1 j.cT hf (cQ j k) t2 t3).2
 have he := aCD j.aZ 1 j.cT ((cQ j k).map fun n => [n])
 rw [gT, qC]
 cases hX : aH0 j.aZ j.cT (cQ j k) with
 |ok p =>
  rw [hX] at h
  cases hY : vC j.aZ 1 j.cT ((cQ j k).map fun n => [n]) with
  |ok q => exact ⟨fun _ => rfl, fun _ => rfl⟩
  |error d => rw [hY] at h; exact h.elim
 |error c =>
  rw [hX] at h
  cases hY : vC j.aZ 1 j.cT ((cQ j k).map fun n => [n]) with
  |ok q => rw [hY] at h; exact h.elim
  |error d =>
   rw [hY] at h
   have h' : c = d := h
   subst h'
   exact ⟨fun q => q, fun q => q⟩
theorem bIX {p : aE} {f : Int} {args : List Int} {m : Nat} (hm : 0 < m) : (sC (jQ p f args) m args.length 0).getD 0 [] = (List.range args.length).map fun i => (jQ p f args i).getD 0 0 := by
 rw [List.getD_eq_getElem?_getD, wA _ hm]; rfl
set_option maxRecDepth 100000
open Go.Proofs
set_option linter.unusedVariables false
set_option linter.unusedSimpArgs false
def jG (c : List Int) (a : Nat) (sd : Int) : bP := .row 3 [[.v (.sl 1 (c.map fun n => [.int .u8 n]) false), .v (I a), .v (.int .u64 sd)]]
theorem bA2 (x : Int) : (0 : Int) ≤ ((BitVec.ofInt 64 x &&& BitVec.ofInt 64 255).toNat : Int) ∧ ((BitVec.ofInt 64 x &&& BitVec.ofInt 64 255).toNat : Int) ≤ 255 := by
 have h : (BitVec.ofInt 64 x &&& BitVec.ofInt 64 255).toNat ≤ 255 := by
  rw [BitVec.toNat_and]
  exact Nat.le_trans Nat.and_le_right (by decide)
 omega
@[go_sem] def aZG : List Nat := [0, 2, 3, 13, 53]
@[go_sem] def bIY : List Nat := []
@[go_sem] def bIZ : Marks := fun id => match id with | 2 => ([3, 7], (.op 0 (.op 1 (.op 2 (.op 4 (.op 5 (.op 6 (.op 3 (.op 7 (.op 8 (.op 9 .nil)))))))))), []) | 3 => ([3, 7, 9], (.op 0 (.op 1 (.op 2 (.op 4 (.op 5 (.op 6 (.op 3 (.op 7 (.op 8 (.op 9 (.op 10 (.op 11 .nil)))))))))))), []) | 6 => ([3, 7], (.op 0 (.op 1 (.op 2 (.op 4 (.op 5 (.op 6 (.op 3 (.op 7 (.op 8 (.op 9 .nil)))))))))), []) | _ => ([], .nil, [])
theorem a7F {ns : Nat} {c : List Int} (hc : ∀ x ∈ c, InB x) (hl : c.length ≤ 4096) {a : Nat} (ha : a ≤ 1000000000) {sd : Int} {g : aB} (hg : g ns = some (jG c a sd)) :
  iH Tryz.prog 50 [.op ns 3 0 0] g fun r h' => ∃ x sd', r = I x ∧ 0 ≤ x ∧ x ≤ 255 ∧ h' = aR g ns (jG c (a + 1) sd') := by
 have w1 : IntKind.i64.wrap ((a : Int) + 1) = ((a + 1 : Nat) : Int) := by rw [IntWalk.i64_in _ (by omega)]; omega
 unfold jG at hg
 rcases Nat.lt_or_ge a c.length with hlt | hge
 ·have ea : c[a]? = some c[a] := List.getElem?_eq_getElem hlt
  obtain ⟨b0, b1⟩ := hc _ (List.getElem_mem hlt)
  generalize c[a] = x at ea b0 b1
  have w2 : IntKind.i64.wrap x = x := IntWalk.i64_in _ (by omega)
  have c1 : (a < c.length) = True := eq_true hlt
  have c2 : (a + 1 ≤ c.length) = True := eq_true hlt
  refine aDS 62 aZG bIY bIZ mix Tryz.func50 rfl (by kernel_rfl) (by simp) ?_
  simp -dsimp -implicitDefEqProofs only [go_sem, ↓reduceIte, Tryz.f50, hg, w1, Option.toArray_none, Option.toArray_some, List.filterMap_cons, List.filterMap_nil, List.elem_cons_self, List.nil_append, List.append_nil, List.toList_toArray, ea, c1, c2, w2]
  rw [aK]
  exact ⟨_, aB.le_refl _, x, _, rfl, b0, b1, rfl⟩
 ·have c1 : (a < c.length) = False := eq_false (by omega)
  have c2 : (a + 1 ≤ c.length) = False := eq_false (by omega)
  refine aDS 62 aZG bIY bIZ mix Tryz.func50 rfl (by kernel_rfl) (by simp) ?_
  simp -dsimp -implicitDefEqProofs only [go_sem, ↓reduceIte, Tryz.f50, hg, w1, Option.toArray_none, Option.toArray_some, List.filterMap_cons, List.filterMap_nil, List.elem_cons_self, List.nil_append, List.append_nil, List.toList_toArray, c1, c2]
  rw [aK]
  generalize (IntKind.u64.wrap _ : Int) = sd2
  obtain ⟨b0, b1⟩ := bA2 (sd2.fdiv (2 ^ min (Int.toNat 40) 64))
  refine ⟨_, aB.le_refl _, _, sd2, rfl, ?_, ?_, rfl⟩
  ·rw [show IntKind.u64.bits = 64 from rfl, IntWalk.u64_in _ (by omega), IntWalk.i64_in _ (by omega)]; exact b0
  ·rw [show IntKind.u64.bits = 64 from rfl, IntWalk.u64_in _ (by omega), IntWalk.i64_in _ (by omega)]; exact b1
@[go_sem] def aZH : List Nat := [0, 1, 4, 5, 7, 11]
@[go_sem] def bI0 : List Nat := []
@[go_sem] def bI1 : Marks := fun _ => ([], .nil, [])
theorem oQ {ns : Nat} {c : List Int} (hc : ∀ x ∈ c, InB x) (hl : c.length ≤ 4096) {a : Nat} (ha : a ≤ 900000000) {sd : Int} (n : Int) (hn : n ≤ 100000) {g : aB} (hg : g ns = some (jG c a sd)) :
  iH Tryz.prog 23 [.op ns 3 0 0, I n] g fun r h' => ∃ x a' sd', r = I x ∧ 0 ≤ x ∧ (1 ≤ n → x < n) ∧ (n ≤ 1 → x = 0) ∧ (a ≤ a' ∧ a' ≤ a + 2) ∧ h' = aR g ns (jG c a' sd') := by
 by_cases h1 : n ≤ 1
 ·refine aDS 20 aZH bI0 bI1 mix Tryz.func23 rfl (by kernel_rfl) (by simp) ?_
  simp -dsimp -implicitDefEqProofs only [go_sem, ↓reduceIte, Tryz.f23, h1]
  exact ⟨g, aB.le_refl _, 0, a, sd, rfl, Int.le_refl _, fun h => by omega, rfl, by omega, (rQ hg).symm⟩
 ·refine aDS 20 aZH bI0 bI1 mix Tryz.func23 rfl (by kernel_rfl) (by simp) ?_
  simp -dsimp -implicitDefEqProofs only [go_sem, ↓reduceIte, Tryz.f23, h1]
  refine aH.fG (a7F hc hl (by omega) hg) ?_
  rintro r_ h' ⟨x, sd', rfl, x0, x1, rfl⟩
  simp -dsimp -implicitDefEqProofs only [go_sem, ↓reduceIte, Tryz.f23]
  refine ⟨fun h2 => ?_, fun h2 => ?_⟩
  ·refine aH.fG (a7F hc hl (a := a + 1) (by omega) (aG ..)) ?_
   rintro r_ h' ⟨y, sd2, rfl, y0, y1, rfl⟩
   simp -dsimp -implicitDefEqProofs only [go_sem, ↓reduceIte, Tryz.f23]
   have e1 : IntKind.i64.wrap (IntKind.i64.wrap (x * 256) + y) = x * 256 + y := by rw [IntWalk.i64_in (x * 256) (by omega), IntWalk.i64_in _ (by omega)]
   have e2 : (x * 256 + y).tmod n = (x * 256 + y) % n := Int.tmod_eq_emod_of_nonneg (by omega)
   have e3 := Int.emod_nonneg (x * 256 + y) (show n ≠ 0 by omega)
   have e4 := Int.emod_lt_of_pos (x * 256 + y) (show 0 < n by omega)
   rw [e1, e2, aK]
   exact ⟨by omega, _, aB.le_refl _, _, a + 1 + 1, sd2, rfl, e3, fun _ => e4, fun q => absurd q h1, by omega, rfl⟩
  ·have e2 : x.tmod n = x % n := Int.tmod_eq_emod_of_nonneg x0
   have e3 := Int.emod_nonneg x (show n ≠ 0 by omega)
   have e4 := Int.emod_lt_of_pos x (show 0 < n by omega)
   rw [e2]
   exact ⟨by omega, _, aB.le_refl _, _, a + 1, sd', rfl, e3, fun _ => e4, fun q => absurd q h1, by omega, rfl⟩
@[go_sem] def bA3 : List Nat := [0, 1, 4]
@[go_sem] def bO9 : List Nat := []
@[go_sem] def bPA : Marks := fun _ => ([], .nil, [])
theorem aPM {ns : Nat} {c : List Int} (hc : ∀ x ∈ c, InB x) (hl : c.length ≤ 4096) {a : Nat} (ha : a ≤ 900000000) {sd : Int} (n : Int) (hn : n ≤ 100000) {g : aB} (hg : g ns = some (jG c a sd)) :
  iH Tryz.prog 47 [.op ns 3 0 0, I n] g fun r h' => ∃ x a' sd', r = .bool x ∧ (a ≤ a' ∧ a' ≤ a + 2) ∧ h' = aR g ns (jG c a' sd') := by
 refine aDS 9 bA3 bO9 bPA mix Tryz.func47 rfl (by kernel_rfl) (by simp) ?_
 simp -dsimp -implicitDefEqProofs only [go_sem, ↓reduceIte, Tryz.f47]
 refine aH.fG (oQ hc hl ha n hn hg) ?_
 rintro r_ h' ⟨x, a', sd', rfl, -, -, -, ha', rfl⟩
 simp -dsimp -implicitDefEqProofs only [go_sem, ↓reduceIte, Tryz.f47]
 exact ⟨_, aB.le_refl _, _, a', sd', rfl, ha', rfl⟩
@[go_sem] def bA4 : List Nat := [0, 1, 4]
@[go_sem] def bPB : List Nat := []
@[go_sem] def bPC : Marks := fun _ => ([], .nil, [])
theorem bI2 {ns : Nat} {c : List Int} (hc : ∀ x ∈ c, InB x) (hl : c.length ≤ 4096) {a : Nat} (ha : a ≤ 900000000) {sd : Int} (l : List (List UInt8)) (bz : Bool) (h1 : 1 ≤ l.length) (h2 : l.length ≤ 1000) {g : aB} (hg : g ns = some (jG c a sd)) :
  iH Tryz.prog 78 [.op ns 3 0 0, .sl 1 (l.map fun s => [.str s]) bz] g fun r h' => ∃ x a' sd', r = .str x ∧ x ∈ l ∧ (a ≤ a' ∧ a' ≤ a + 2) ∧ h' = aR g ns (jG c a' sd') := by
 refine aDS 12 bA4 bPB bPC mix Tryz.func78 rfl (by kernel_rfl) (by simp) ?_
 simp -dsimp -implicitDefEqProofs only [go_sem, ↓reduceIte, Tryz.f78]
 intro _
 refine aH.fG (oQ hc hl ha l.length (by omega) hg) ?_
 rintro r_ h' ⟨x, a', sd', rfl, x0, x1, -, ha', rfl⟩
 have x1 := x1 (by omega)
 obtain ⟨k, rfl⟩ : ∃ k : Nat, x = k := ⟨x.toNat, by omega⟩
 have ek : l[k]? = some l[k] := List.getElem?_eq_getElem (by omega)
 simp -dsimp -implicitDefEqProofs only [go_sem, ↓reduceIte, Tryz.f78, ek]
 exact ⟨by omega, _, aB.le_refl _, _, a', sd', rfl, List.getElem_mem _, ha', rfl⟩
@[go_sem] def bA5 : List Nat := [0, 2, 4, 5, 10]
@[go_sem] def bPD : List Nat := []
@[go_sem] def bPE : Marks := fun _ => ([], .nil, [])
theorem bA6 {ns : Nat} {c : List Int} (hc : ∀ x ∈ c, InB x) (hl : c.length ≤ 4096) {a : Nat} (ha : a ≤ 850000000) {sd : Int} {g : aB} (hg : g ns = some (jG c a sd)) :
  iH Tryz.prog 83 [.op ns 3 0 0] g fun r h' => ∃ x a' sd', r = I x ∧ jA x ∧ (a ≤ a' ∧ a' ≤ a + 8) ∧ h' = aR g ns (jG c a' sd') := by
 refine aDS 25 bA5 bPD bPE mix Tryz.func83 rfl (by kernel_rfl) (by simp) ?_
 simp -dsimp -implicitDefEqProofs only [go_sem, ↓reduceIte, Tryz.f83]
 refine aH.fG (oQ hc hl (by omega) 6 (by omega) hg) ?_
 rintro r_ h' ⟨x, a1, sd1, rfl, x0, x1, -, ha1, rfl⟩
 simp -dsimp -implicitDefEqProofs only [go_sem, ↓reduceIte, Tryz.f83]
 refine ⟨fun e0 => ?_, fun e0 => ⟨fun e1 => ?_, fun e1 => ?_⟩⟩
 ·refine aH.fG (oQ hc hl (by omega) 3 (by omega) (aG ..)) ?_
  rintro r_ h' ⟨y, a2, sd2, rfl, y0, y1, -, ha2, rfl⟩
  have y1 := y1 (by omega)
  simp -dsimp -implicitDefEqProofs only [go_sem, ↓reduceIte, Tryz.f83]
  rw [aK]
  exact ⟨_, aB.le_refl _, _, a2, sd2, rfl, by rw [IntWalk.i64_in _ (by omega)]; unfold jA; omega, by omega, rfl⟩
 ·refine aH.fG (oQ hc hl (by omega) 256 (by omega) (aG ..)) ?_
  rintro r_ h' ⟨y, a2, sd2, rfl, y0, y1, -, ha2, rfl⟩
  have y1 := y1 (by omega)
  simp -dsimp -implicitDefEqProofs only [go_sem, ↓reduceIte, Tryz.f83]
  refine aH.fG (oQ hc hl (by omega) 256 (by omega) (aG ..)) ?_
  rintro r_ h' ⟨z, a3, sd3, rfl, z0, z1, -, ha3, rfl⟩
  have z1 := z1 (by omega)
  simp -dsimp -implicitDefEqProofs only [go_sem, ↓reduceIte, Tryz.f83]
  refine aH.fG (oQ hc hl (by omega) 256 (by omega) (aG ..)) ?_
  rintro r_ h' ⟨u, a4, sd4, rfl, u0, u1, -, ha4, rfl⟩
  have u1 := u1 (by omega)
  simp -dsimp -implicitDefEqProofs only [go_sem, ↓reduceIte, Tryz.f83]
  simp only [aK]
  refine ⟨_, aB.le_refl _, _, a4, sd4, rfl, ?_, by omega, rfl⟩
  rw [IntWalk.i64_in (y * 65536) (by omega), IntWalk.i64_in (z * 256) (by omega), IntWalk.i64_in (y * 65536 + z * 256) (by omega), IntWalk.i64_in _ (by omega), Int.tmod_eq_emod_of_nonneg (by omega)]
  unfold jA; omega
 ·refine aH.fG (oQ hc hl (by omega) 7 (by omega) (aG ..)) ?_
  rintro r_ h' ⟨y, a2, sd2, rfl, y0, y1, -, ha2, rfl⟩
  have y1 := y1 (by omega)
  simp -dsimp -implicitDefEqProofs only [go_sem, ↓reduceIte, Tryz.f83]
  rw [aK]
  exact ⟨_, aB.le_refl _, _, a2, sd2, rfl, by unfold jA; omega, by omega, rfl⟩
set_option maxRecDepth 100000
open Go.Proofs
set_option linter.unusedVariables false
set_option linter.unusedSimpArgs false
theorem a39 {n : Int} (h0 : 0 ≤ n) (h : n < 10) : Go.Lib.itoa n = [UInt8.ofNat (48 + n).toNat] := by
 unfold Go.Lib.itoa
 rw [if_neg (by omega), Go.Lib.decDigits, dif_pos (by omega), show (48 + n).toNat = 48 + n.toNat from by omega]
theorem a4A {n : Int} (h : 10 ≤ n) : Go.Lib.itoa n = Go.Lib.itoa (n / 10) ++ [UInt8.ofNat (48 + n % 10).toNat] := by
 unfold Go.Lib.itoa
 rw [if_neg (by omega), if_neg (by omega), Go.Lib.decDigits, dif_neg (by omega), show (48 + n % 10).toNat = 48 + n.toNat % 10 from by omega, show (n / 10).toNat = n.toNat / 10 from by omega]
theorem x6 {u k : Nat} (h : u < 10 ^ k) (hk : 1 ≤ k) : (Go.Lib.decDigits u).length ≤ k := by
 induction k generalizing u with
 |zero => omega
 |succ k ih =>
  rw [Go.Lib.decDigits]
  split
  ·simp
  ·rename_i hu
   rcases Nat.eq_zero_or_pos k with e | e
   ·subst e; simp at h; omega
   ·have := ih (u := u / 10) (by rw [Nat.pow_succ] at h; omega) e
    simp; omega
theorem aRH {n : Int} (h0 : -9223372036854775808 ≤ n) (h1 : n ≤ 9223372036854775807) : (Go.Lib.itoa n).length ≤ 21 := by
 unfold Go.Lib.itoa
 split
 ·have := x6 (u := n.natAbs) (k := 20) (by omega) (by omega)
  simp; omega
 ·have := x6 (u := n.toNat) (k := 20) (by omega) (by omega)
  omega
theorem a4B {u : Nat} (h : u < 10) : Go.Lib.decDigits u = [UInt8.ofNat (48 + u)] := by rw [Go.Lib.decDigits, dif_pos h]
theorem aZI (n : Int) (h : 0 ≤ n) : Go.Lib.itoa n = Go.Lib.decDigits n.toNat := by rw [Go.Lib.itoa, if_neg (by omega)]
theorem aCQ {α : Type} (f : α → Nat) (l : List α) (x : α) : qM f (l ++ [x]) = qM f l + 1 + f x := by
 simp only [kT, List.length_append, List.map_append, List.sum_append, List.length_cons, List.length_nil, List.map_cons, List.map_nil, List.sum_cons, List.sum_nil]; omega
theorem aZJ (k n i c : Int) (l : List aC) : (aC.mk k n i c l).s = qM aC.s l := by rw [aC.tI]; rfl
theorem aZK (k n : Int) : (aC.mk k n 0 0 []).o [.v (I k), .v (I n), .v (I 0), .v (I 0), .nil 5] := (aC.sH _ _).2 ⟨.nil 5, rfl, OS.nil⟩
theorem aPN (k n : Int) : Sub (.agg [I k, I n, I 0, I 0, .bH]) (.agg ([.v (I k), .v (I n), .v (I 0), .v (I 0), .nil 5].map OV.val)) := Sub.agg (.cons (.refl _) (.cons (.refl _) (.cons (.refl _) (.cons (.refl _) (.cons (Sub.nil 5 true) .nil)))))
theorem aJ2 (k n : Int) : OV.bT [.v (I k), .v (I n), .v (I 0), .v (I 0), .nil 5] = [] := by simp only [OV.dQ, OV.hU, OV.pD, OV.mJ, List.append_nil]
def tR (k n c d : Int) (v : aD) : bP := .row 5 [[.v (I k), .v (I n), .v (I c), .v (I d), .v v]]
@[go_sem] def bA7 : List Nat := [0, 2, 4]
@[go_sem] def bPF : List Nat := [8, 17]
@[go_sem] def bPG : Marks := fun id => match id with | 3 => ([], (.op 0 (.op 1 (.op 2 (.op 3 (.op 4 (.op 5 (.op 6 (.op 7 (.op 8 (.op 9 (.op 10 .nil))))))))))), []) | _ => ([], .nil, [])
theorem aFY (m : Nat) : ∀ n : Int, 0 ≤ n → n < m → n ≤ 1000002 → fL Tryz.prog 79 [I n] (.str (Go.Lib.itoa n)) := by
 induction m with
 |zero => intro n a b; omega
 |succ m ih =>
 intro n h0 hm hn
 refine fT 20 bA7 bPF bPG mix Tryz.func79 rfl (by kernel_rfl) (by simp) fun h => ?_
 simp -dsimp -implicitDefEqProofs only [go_sem, ↓reduceIte, Tryz.f79]
 repeat' (with_reducible first | intro _ | refine And.intro ?_ ?_)
 all_goals try omega
 ·rw [a39 h0 (by assumption), IntWalk.i64_in (48 + n) (by omega), IntWalk.u8_in (48 + n) (by omega)]
 ·rw [Int.tdiv_eq_ediv_of_nonneg (by omega), IntWalk.i64_in (n / 10) (by omega)]
  first | refine aH.mk (ih (n / 10) (by omega) (by omega) (by omega)) ?_ | refine aF.mk (ih (n / 10) (by omega) (by omega) (by omega)) ?_ | refine aH.bS (ih (n / 10) (by omega) (by omega) (by omega)) ?_ | refine aF.mk (bM.eQ (ih (n / 10) (by omega) (by omega) (by omega))) ?_
  simp -dsimp -implicitDefEqProofs only [go_sem, ↓reduceIte, Tryz.f79]
  repeat' (with_reducible first | intro _ | refine And.intro ?_ ?_)
  all_goals try (first | omega | decide)
  ·have := aRH (n := n / 10) (by omega) (by omega)
   omega
  ·rw [a4A (n := n) (by omega), Int.tmod_eq_emod_of_nonneg (by omega), IntWalk.i64_in (48 + n % 10) (by omega), IntWalk.u8_in (48 + n % 10) (by omega)]
set_option maxRecDepth 100000
open Go.Proofs
set_option linter.unusedVariables false
set_option linter.unusedSimpArgs false
def kV (ns np : Nat) (L : Int) (pl : Bool) : bP := .row 4 [[.v (.op ns 3 0 0), .v (.op np 1 0 0), .v (I L), .v (.bool pl)]]
def mL (L : Int) : Nat := (L - 1).toNat
def aBA (p : aE) (np : Nat) (B : aB) : Prop := ∃ es o, OR aT.o p.aI es ∧ B np = some (.row 1 [[.v (jR 3 p.aI.length o)]]) ∧ (o = none → p.aI = []) ∧ ∀ m, o = some m → B m = some (.row 3 (OV.cells es))
theorem aBA.le {p : aE} {np : Nat} {B B' : aB} (h : aBA p np B) (hl : B.le B') : aBA p np B' := by
 obtain ⟨es, o, h1, h2, h3, h4⟩ := h
 exact ⟨es, o, h1, aB.aG4 hl h2, h3, fun m e => aB.aG4 hl (h4 m e)⟩
@[go_sem] def bA8 : List Nat := [0, 1, 4, 14]
@[go_sem] def bPH : List Nat := []
@[go_sem] def bPI : Marks := fun _ => ([], .nil, [])
theorem aTZ {ns ng np : Nat} {c : List Int} {pl : Bool} (hc : ∀ x ∈ c, InB x) (hl : c.length ≤ 4096) (hne : ¬ ns = ng) (vars : Int) (hv : vars ≤ 1000) {B : aB} {a : Nat} {sd L : Int} (hB1 : B ns = none) (hB2 : B ng = none) (ha : a ≤ 800001000) :
  iH Tryz.prog 80 [.op ng 4 0 0, I vars] (aR (aR B ns (jG c a sd)) ng (kV ns np L pl)) fun r h' => ∃ k n a' sd', r = .agg [I k, I n, I 0, I 0, .bH] ∧ ((k = 1 ∧ jA n) ∨ (k = 2 ∧ 0 ≤ n ∧ n < vars)) ∧ (a ≤ a' ∧ a' ≤ a + 10) ∧ h' = aR (aR B ns (jG c a' sd')) ng (kV ns np L pl) := by
 have iD : ¬ ns = ng := hne
 have gS : ¬ ng = ns := Ne.symm iD
 have bF : (ns = ng) = False := eq_false iD
 have bG : (ng = ns) = False := eq_false gS
 have hg : (aR (aR B ns (jG c a sd)) ng (kV ns np L pl)) ng = some (kV ns np L pl) := aG ..
 unfold kV at hg
 refine aDS 28 bA8 bPH bPI mix Tryz.func80 rfl (by kernel_rfl) (by simp) ?_
 simp -dsimp -implicitDefEqProofs only [go_sem, ↓reduceIte, Tryz.f80]
 intro n4 q4
 have a4 : ¬ n4 = ng := by grind
 have b4 : ¬ n4 = ns := by grind
 have z4 : B n4 = none := by grind
 have aL3 : ¬ n4 = ng := a4
 have a4C : ¬ ng = n4 := Ne.symm aL3
 have zU : (n4 = ng) = False := eq_false aL3
 have zV : (ng = n4) = False := eq_false a4C
 have xG : ¬ n4 = ns := b4
 have aCR : ¬ ns = n4 := Ne.symm xG
 have zW : (n4 = ns) = False := eq_false xG
 have zX : (ns = n4) = False := eq_false aCR
 simp -dsimp -implicitDefEqProofs only [go_sem, ↓reduceIte, Tryz.f80, zU, zW, zV, bG, zX, bF, aA, aM, kV, Option.toArray_none, Option.toArray_some, List.filterMap_cons, List.filterMap_nil, List.elem_cons_self, List.nil_append, List.append_nil, List.toList_toArray]
 have hle : ∀ X Y Z, (aR (aR B ns X) ng Y).le (aR (aR (aR B ns X) ng Y) n4 Z) := fun X Y Z => aB.aY (by rw [aA _ _ _ _ aL3, aA _ _ _ _ xG]; exact z4) (aB.le_refl _)
 refine ⟨fun hp => ?_, fun hp => ?_⟩
 ·refine aH.fG (aPM (a := a) (sd := sd) hc hl (by omega) 4 (by omega) (by rw [aA _ _ _ _ aCR, aA _ _ _ _ iD, aG])) ?_
  rintro r_ h' ⟨b, a1, sd1, rfl, ha1, rfl⟩
  simp only [bR xG, bR gS, aK]
  cases b
  ·simp -dsimp -implicitDefEqProofs only [go_sem, ↓reduceIte, Tryz.f80, zU, zW, zV, bG, zX, bF, aA, aM, Option.toArray_none, Option.toArray_some, List.filterMap_cons, List.filterMap_nil, List.elem_cons_self, List.nil_append, List.append_nil, List.toList_toArray]
   refine aH.fG (oQ (a := a1) (sd := sd1) hc hl (by omega) vars (by omega) (by rw [aA _ _ _ _ aCR, aA _ _ _ _ iD, aG])) ?_
   rintro r_ h' ⟨x, a2, sd2, rfl, x0, x1, -, ha2, rfl⟩
   simp only [bR xG, bR gS, aK]
   simp -dsimp -implicitDefEqProofs only [go_sem, ↓reduceIte, Tryz.f80, zU, zW, zV, bG, zX, bF, aA, aM, aK, Option.toArray_none, Option.toArray_some, List.filterMap_cons, List.filterMap_nil, List.elem_cons_self, List.nil_append, List.append_nil, List.toList_toArray]
   exact ⟨_, hle _ _ _, 2, x, a2, sd2, rfl, .inr ⟨rfl, x0, x1 (by omega)⟩, by omega, rfl⟩
  ·simp -dsimp -implicitDefEqProofs only [go_sem, ↓reduceIte, Tryz.f80, zU, zW, zV, bG, zX, bF, aA, aM, Option.toArray_none, Option.toArray_some, List.filterMap_cons, List.filterMap_nil, List.elem_cons_self, List.nil_append, List.append_nil, List.toList_toArray]
   refine aH.fG (bA6 (a := a1) (sd := sd1) hc hl (by omega) (by rw [aA _ _ _ _ aCR, aA _ _ _ _ iD, aG])) ?_
   rintro r_ h' ⟨x, a2, sd2, rfl, hx, ha2, rfl⟩
   simp only [bR xG, bR gS, aK]
   simp -dsimp -implicitDefEqProofs only [go_sem, ↓reduceIte, Tryz.f80, zU, zW, zV, bG, zX, bF, aA, aM, aK, Option.toArray_none, Option.toArray_some, List.filterMap_cons, List.filterMap_nil, List.elem_cons_self, List.nil_append, List.append_nil, List.toList_toArray]
   exact ⟨_, hle _ _ _, 1, x, a2, sd2, rfl, .inl ⟨rfl, hx⟩, by omega, rfl⟩
 ·refine aH.fG (bA6 (a := a) (sd := sd) hc hl (by omega) (by rw [aA _ _ _ _ aCR, aA _ _ _ _ iD, aG])) ?_
  rintro r_ h' ⟨x, a2, sd2, rfl, hx, ha2, rfl⟩
  simp only [bR xG, bR gS, aK]
  simp -dsimp -implicitDefEqProofs only [go_sem, ↓reduceIte, Tryz.f80, zU, zW, zV, bG, zX, bF, aA, aM, aK, Option.toArray_none, Option.toArray_some, List.filterMap_cons, List.filterMap_nil, List.elem_cons_self, List.nil_append, List.append_nil, List.toList_toArray]
  exact ⟨_, hle _ _ _, 1, x, a2, sd2, rfl, .inl ⟨rfl, hx⟩, by omega, rfl⟩
set_option maxRecDepth 100000
open Go.Proofs
set_option linter.unusedVariables false
set_option linter.unusedSimpArgs false
theorem Shift.own {h h' : aB} (e : List OV) (ho : qN h' (OV.bT e)) (hl : h.le (k8 h' (bE (OV.bT e)))) : Shift (.agg (e.map OV.val)) h' (.agg (e.map OV.qW)) h := fun E w v R rx =>
 ⟨E, (Ev.k8 _).forget hl, (R.k8 _).forget hl, (fD.aG6 R e v ho (fun p hp => dD.2 ⟨p.2, hp⟩) rx).qR fun b hb => o7.le hl hb⟩
theorem a4D {B g' : aB} {l : List (Nat × bP)} {ns : Nat} {X : bP} (w : eU B l g') (z : g' ns = none) : (aR B ns X).le (k8 (aR g' ns X) (bE l)) := fun m => by
 by_cases e : m = ns
 ·subst e
  have hn : m ∉ bE l := fun q => by
   obtain ⟨o, ho⟩ := dD.1 q
   have := w.oV _ ho
   simp only at this
   rw [z] at this; cases this
  rw [mR hn]; exact .inr (by rw [aG, aG])
 ·by_cases e2 : m ∈ bE l
  ·rw [aA _ _ _ _ e]; exact .inl (w.fresh m e2)
  ·rw [mR e2, aA _ _ _ _ e, aA _ _ _ _ e, w.upto m e2]; exact .inr rfl
theorem aZL {B g' : aB} {l : List (Nat × bP)} {ns : Nat} {X : bP} (w : eU B l g') (z : g' ns = none) : qN (aR g' ns X) l := fun p hp => by
 have := w.oV p hp
 rw [aA _ _ _ _ (fun e => by rw [e, z] at this; cases this)]; exact this
def sS (l : List Int) : bP := .row 1 ((l.map fun n => [I n]).map (List.map .v))
theorem aVQ (l : List Int) (x : Int) : sS (l ++ [x]) = .row 1 (((l.map fun n => [I n]).map (List.map Cell.v)) ++ [[.v (I x)]]) := by simp [sS]
@[go_sem] def aZM : List Nat := [0, 1, 4, 5, 6, 10]
@[go_sem] def bI3 : List Nat := [7, 16]
@[go_sem] def bI4 : Marks := fun _ => ([], .nil, [])
theorem wH {ns : Nat} {c : List Int} (hc : ∀ x ∈ c, InB x) (hl : c.length ≤ 4096) (size : Int) (hsz : size ≤ 1000) {B : aB} (hB : B ns = none) {a : Nat} (ha : a ≤ 800000000) {sd : Int} :
  iH Tryz.prog 49 [.op ns 3 0 0, I size] (aR B ns (jG c a sd)) fun r h' => ∃ l a' sd', l.length = size.toNat ∧ eD l ∧ r = ints l ∧ (a ≤ a' ∧ a' ≤ a + 8 * size.toNat) ∧ h' = aR B ns (jG c a' sd') := by
 refine j4 19 aZM bI3 bI4 mix Tryz.func49 rfl (by kernel_rfl) (by simp) ?_
 simp -dsimp -implicitDefEqProofs only [go_sem, ↓reduceIte, Tryz.f49]
 refine ⟨by decide, ?_⟩
 refine cS (keep := aZM) (ib := bI3) (mk := bI4) mix (by kernel_rfl) (fun x : List Int × Option Nat × Nat × Int => [(0, .op ns 3 0 0), (1, I size), (5, jC 1 x.1.length x.2.1), (6, I x.1.length)]) (fun x => aR (cK B (sS x.1) x.2.1) ns (jG c x.2.2.1 x.2.2.2)) (fun x => (x.1.length ≤ size.toNat ∧ eD x.1) ∧ fK B x.1 x.2.1 ∧ (∀ m, x.2.1 = some m → ¬ m = ns) ∧ (a ≤ x.2.2.1 ∧ x.2.2.1 ≤ a + 8 * x.1.length)) (fun x => size.toNat - x.1.length) ([], none, a, sd) ⟨by simp [cV, bZ, jC], aB.le_refl _, ⟨Nat.zero_le _, fun x hx => by cases hx⟩, rfl, (fun m e => by cases e), by simp⟩ ?_
 rintro ⟨l, o, a1, sd1⟩ ⟨⟨hll, hnl⟩, hos, hon, ha1⟩
 simp only at hll hnl hos hon ha1 ⊢
 simp -dsimp -implicitDefEqProofs only [go_sem, ↓reduceIte, Tryz.f49]
 refine ⟨fun hlt => ?_, fun hge => ?_⟩
 ·refine aH.fG (bA6 (a := a1) (sd := sd1) hc hl (by omega) (aG ..)) ?_
  rintro r_ h' ⟨x, a2, sd2, rfl, hx, ha2, rfl⟩
  rw [aK]
  simp -dsimp -implicitDefEqProofs only [go_sem, ↓reduceIte, Tryz.f49]
  refine ⟨by decide, by decide, ?_⟩
  have hnx : eD (l ++ [x]) := fun y hy => by
   rcases List.mem_append.1 hy with hy | hy
   ·exact hnl y hy
   ·rw [List.mem_singleton.1 hy]; exact hx
  have hstep : (l ++ [x]).length = l.length + 1 := by simp
  cases o with
  |none =>
   rw [bD] at hos
   subst hos
   simp -dsimp -implicitDefEqProofs only [go_sem, ↓reduceIte, Tryz.f49, bO, aO]
   refine ⟨by decide, fun n ⟨d1, z1⟩ => ⟨([x], some n, a2, sd2), ⟨rfl, IntWalk.i64_in _ (by omega)⟩, ?_, ⟨⟨by simp only [List.length_singleton]; omega, hnx⟩, z1, fun m e => by cases e; exact d1, by show a ≤ a2 ∧ a2 ≤ a + 8 * 1; simp only [List.length_nil] at ha1; omega⟩, by simp only [List.length_singleton, List.length_nil] at hlt ⊢; omega⟩⟩
   simp only [aJ]
   rw [bR d1]
   exact aB.le_refl _
  |some m0 =>
   rw [aV] at hos
   have k1 := hon m0 rfl
   have jT : ¬ m0 = ns := k1
   have lF : ¬ ns = m0 := Ne.symm jT
   have gM : (m0 = ns) = False := eq_false jT
   have gN : (ns = m0) = False := eq_false lF
   simp -dsimp -implicitDefEqProofs only [go_sem, ↓reduceIte, Tryz.f49, aX, aJ, gM, gN, aA, aM, sS]
   refine ⟨by decide, Nat.le_refl _, by omega, by omega, fun b hb => ?_⟩
   have b1 : ¬ b = ns := by grind
   have b2 : ¬ b = m0 := by grind
   have b3 : B b = none := by grind
   refine ⟨(l ++ [x], some b, a2, sd2), ⟨by rw [hstep]; rfl, by rw [hstep, IntWalk.i64_in _ (by omega)]; rfl⟩, ?_, ⟨⟨by rw [hstep]; omega, hnx⟩, b3, fun m e => by cases e; exact b1, by show a ≤ a2 ∧ a2 ≤ a + 8 * (l ++ [x]).length; rw [hstep]; omega⟩, by show size.toNat - (l ++ [x]).length < _; rw [hstep]; omega⟩
   simp only [aJ]
   have hr := aVQ l x
   unfold sS at hr
   rw [List.take_of_length_le (by simp), hr]
   intro q_
   simp only [aM]
   grind
 ·have he : l.length = size.toNat := by omega
  cases o with
  |none =>
   rw [bD] at hos
   subst hos
   exact ⟨ints [], _, Shift.of (Sub.loose _ _ _) (aB.le_refl _), [], a1, sd1, he, hnl, rfl, by omega, rfl⟩
  |some m0 =>
   rw [aV] at hos
   have k1 := hon m0 rfl
   exact ⟨ints l, aR B ns (jG c a1 sd1), fH l (by rw [aA _ _ _ _ k1]; exact hos) (by rw [aJ, bR k1]; exact aB.le_refl _) rfl, l, a1, sd1, he, hnl, rfl, by omega, rfl⟩
set_option maxRecDepth 100000
open Go.Proofs
set_option linter.unusedVariables false
set_option linter.unusedSimpArgs false
theorem nY {args dir : List Int} (hd : dir.length = args.length) : (cY args dir).length = args.length := by simp [cY, hd]
@[go_sem] def aZN : List Nat := [0, 1, 4, 5, 6, 7, 9, 10, 11, 12]
@[go_sem] def bI5 : List Nat := [8, 22, 23]
@[go_sem] def bI6 : Marks := fun _ => ([], .nil, [])
theorem lines (args dir : List Int) (hd : dir.length = args.length) (hl : args.length ≤ 1048576) : fL Tryz.prog 76 [ints args, ints dir] (c7 (cY args dir)) := by
 refine rP 27 aZN bI5 bI6 mix Tryz.func76 rfl (by kernel_rfl) (by simp) fun h => ?_
 simp -dsimp -implicitDefEqProofs only [go_sem, ↓reduceIte, Tryz.f76]
 refine ⟨Nat.zero_lt_one, fun _ => ?_⟩
 have hc := nY hd
 refine aB2 (keep := aZN) (ib := bI5) (mk := bI6) mix (by kernel_rfl) (fun x : Nat × Option Nat => [(1, ints dir), (5, jC 1 ((cY args dir).take x.1).length x.2), (9, ints args), (10, I args.length), (11, I x.1)]) (fun x => cK h (.row 1 ((((cY args dir).take x.1).map fun s => [ints s]).map (List.map .v))) x.2) (fun x => x.1 ≤ args.length ∧ fK h ((cY args dir).take x.1) x.2) (fun x => args.length - x.1) (0, none) ⟨by simp [cV, bZ, jC], by simp only [aO]; exact aB.jN (aB.le_refl _), Nat.zero_le _, by simp [fK]⟩ ?_
 rintro ⟨k, o⟩ ⟨hk, hos⟩
 simp only at hk hos ⊢
 rcases Nat.lt_or_ge k args.length with hlt | hge
 ·have ea : args[k]? = some args[k] := List.getElem?_eq_getElem hlt
  have ed : dir[k]? = some (dir[k]'(by omega)) := List.getElem?_eq_getElem (by omega)
  have hy : (cY args dir).take (k + 1) = (cY args dir).take k ++ [(cY args dir)[k]'(by omega)] := List.take_succ_eq_append_getElem (by omega)
  have hv : (cY args dir)[k]'(by omega) = [args[k], dir[k]'(by omega)] := by simp [cY]
  have hlk : ((cY args dir).take k).length = k := by rw [List.length_take]; omega
  rw [hv] at hy
  cases o with
  |none =>
   rw [bD] at hos
   rw [hos] at hy ⊢
   simp -dsimp -implicitDefEqProofs only [go_sem, ↓reduceIte, Tryz.f76, bO, aO, hlt, ea, ed]
   refine ⟨by omega, by decide, by decide, by decide, by decide, by decide, fun b hb => ⟨(k + 1, some b), ?_⟩⟩
   simp only [hy]
   exact ⟨⟨rfl, by rw [IntWalk.i64_in _ (by omega)]; rfl⟩, zR (A := []) (x := .sl 1 [[I args[k]], [I (dir[k]'(by omega))]] true) (y := ints [args[k], dir[k]'(by omega)]) (aG _ _ _) (Sub.loose _ _ _) (by rw [aK]; exact aB.le_refl _), ⟨by omega, hb⟩, by omega⟩
  |some n =>
   rw [aV] at hos
   simp -dsimp -implicitDefEqProofs only [go_sem, ↓reduceIte, Tryz.f76, aX, aJ, hlt, ea, ed]
   refine ⟨by omega, by decide, by decide, by decide, by decide, by decide, Nat.le_refl _, by omega, by omega, fun b hb => ⟨(k + 1, some b), ?_⟩⟩
   simp only [hy, aJ, aX, aV]
   refine ⟨⟨by rw [List.length_append]; rfl, by rw [IntWalk.i64_in _ (by omega)]; rfl⟩, zR (x := .sl 1 [[I args[k]], [I (dir[k]'(by omega))]] true) (y := ints [args[k], dir[k]'(by omega)]) (aG _ _ _) (Sub.loose _ _ _) ?_, ⟨by omega, hb.2⟩, by omega⟩
   rw [aK, ← fI ints]
   exact kU hos
 ·have hk' : k = args.length := by omega
  subst hk'
  rw [List.take_of_length_le (by omega)] at hos ⊢
  cases o with
  |none =>
   rw [bD] at hos
   simp -dsimp -implicitDefEqProofs only [go_sem, ↓reduceIte, Tryz.f76, bO, aO, Nat.lt_irrefl, Int.lt_irrefl]
   rw [hos]
   exact Shift.of (Sub.loose _ _ _) (aB.le_refl _)
  |some n =>
   rw [aV] at hos
   simp -dsimp -implicitDefEqProofs only [go_sem, ↓reduceIte, Tryz.f76, aX, aJ, Nat.lt_irrefl, Int.lt_irrefl]
   exact l3 _ hos (aB.le_refl _) rfl
open Go.Proofs
set_option linter.unusedVariables false
set_option linter.unusedSimpArgs false
open Go.Proofs
set_option linter.unusedVariables false
set_option linter.unusedSimpArgs false
end Go.Hl
