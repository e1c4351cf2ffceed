/-
  Contracts of functions and laws of the layer over the walk.
-/
import Derived.Test.YtpnelljgohjjdaaDoorVvA
import Derived.Shelf.Strings.Split
import Derived.Shelf.Strings.Cut
import Derived.Shelf.Strconv.ParseIntPublic10
import Derived.Shelf.Slices.Turned
import Derived.Test.YtpnelljgohjjdaaDoorHlD
namespace Go.Hl
open Go.Proofs
set_option linter.unusedVariables false
set_option linter.unusedSimpArgs false
end Go.Hl
namespace Go.Proofs
open Go.Shelf
def Tryd.lays145_ren : Go.Shelf.Ren := ⟨fun | 145 => 22 | 220 => 46 | 219 => 63 | 217 => 74 | 225 => 75 | 224 => 76 | 267 => 77 | 266 => 86 | 314 => 87 | n => n, fun | 9 => 9 | 4 => 4 | 59 => 49 | 3 => 3 | 5 => 5 | 46 => 105 | 146 => 113 | 51 => 112 | n => n, fun | 1 => 0 | n => n⟩
theorem Tryd.lays145 : Go.Proofs.Lays.n145 Tryd.prog Tryd.lays145_ren := {
  mixed := by kernel_rfl
  f145 := Tryd.func22.trans (congrArg some (by kernel_rfl))
  f217 := Tryd.func74.trans (congrArg some (by kernel_rfl))
  f219 := Tryd.func63.trans (congrArg some (by kernel_rfl))
  f220 := Tryd.func46.trans (congrArg some (by kernel_rfl))
  f224 := Tryd.func76.trans (congrArg some (by kernel_rfl))
  f225 := Tryd.func75.trans (congrArg some (by kernel_rfl))
  f266 := Tryd.func86.trans (congrArg some (by kernel_rfl))
  f267 := Tryd.func77.trans (congrArg some (by kernel_rfl))
  f314 := Tryd.func87.trans (congrArg some (by kernel_rfl))
  t3 := Tryd.underlying3
  a3 := Tryd.isAgg3
  z3 := Tryd.sizeOf3
  v3 := Tryd.zeroValue3
  t4 := Tryd.underlying4
  a4 := Tryd.isAgg4
  z4 := Tryd.sizeOf4
  v4 := Tryd.zeroValue4
  t5 := Tryd.underlying5
  a5 := Tryd.isAgg5
  z5 := Tryd.sizeOf5
  v5 := Tryd.zeroValue5
  t9 := Tryd.underlying9
  a9 := Tryd.isAgg9
  z9 := Tryd.sizeOf9
  v9 := Tryd.zeroValue9
  t46 := Tryd.underlying105
  a46 := Tryd.isAgg105
  z46 := Tryd.sizeOf105
  v46 := Tryd.zeroValue105
  t51 := Tryd.underlying112
  a51 := Tryd.isAgg112
  z51 := Tryd.sizeOf112
  v51 := Tryd.zeroValue112
  t59 := Tryd.underlying49
  a59 := Tryd.isAgg49
  z59 := Tryd.sizeOf49
  v59 := Tryd.zeroValue49
  t146 := Tryd.underlying113
  a146 := Tryd.isAgg113
  z146 := Tryd.sizeOf113
  v146 := Tryd.zeroValue113
  g1 := by kernel_rfl }
open Go.RowKit Go.Lib in
theorem Tryd.strings_Cut (s sep : ByteArray) (m : Int) (w : World) (hs : s.size < 4294967281) (hm : w.cell? ⟨0, 0, none⟩ = some (.int .i64 m)) :
    Calls Tryd.prog 22 #[.string s, .string sep] w fun e w' => e = .returned (.tuple #[.string ⟨(Lib.cut s.data.toList sep.data.toList).1.toArray⟩, .string ⟨(Lib.cut s.data.toList sep.data.toList).2.1.toArray⟩, .bool (Lib.cut s.data.toList sep.data.toList).2.2]) ∧ ∃ n, w' = w.drewN n := Any.strings_Cut Tryd.lays145 s sep m w hs hm
def Tryd.lays146_ren : Go.Shelf.Ren := ⟨fun | 146 => 33 | 221 => 53 | 268 => 69 | 138 => 70 | 143 => 71 | 195 => 83 | 197 => 84 | 218 => 85 | 219 => 63 | 260 => 97 | 217 => 74 | 225 => 75 | 224 => 76 | 267 => 77 | 266 => 86 | 314 => 87 | n => n, fun | 9 => 9 | 31 => 38 | 3 => 3 | 4 => 4 | 0 => 0 | 105 => 110 | 21 => 21 | 5 => 5 | 46 => 105 | 119 => 141 | 139 => 144 | 138 => 143 | 146 => 113 | 51 => 112 | n => n, fun | 1 => 0 | 3 => 3 | 4 => 4 | n => n⟩
theorem Tryd.lays146 : Go.Proofs.Lays.n146 Tryd.prog Tryd.lays146_ren := {
  mixed := by kernel_rfl
  f138 := Tryd.func70.trans (congrArg some (by kernel_rfl))
  f143 := Tryd.func71.trans (congrArg some (by kernel_rfl))
  f146 := Tryd.func33.trans (congrArg some (by kernel_rfl))
  f195 := Tryd.func83.trans (congrArg some (by kernel_rfl))
  f197 := Tryd.func84.trans (congrArg some (by kernel_rfl))
  f217 := Tryd.func74.trans (congrArg some (by kernel_rfl))
  f218 := Tryd.func85.trans (congrArg some (by kernel_rfl))
  f219 := Tryd.func63.trans (congrArg some (by kernel_rfl))
  f221 := Tryd.func53.trans (congrArg some (by kernel_rfl))
  f224 := Tryd.func76.trans (congrArg some (by kernel_rfl))
  f225 := Tryd.func75.trans (congrArg some (by kernel_rfl))
  f260 := Tryd.func97.trans (congrArg some (by kernel_rfl))
  f266 := Tryd.func86.trans (congrArg some (by kernel_rfl))
  f267 := Tryd.func77.trans (congrArg some (by kernel_rfl))
  f268 := Tryd.func69.trans (congrArg some (by kernel_rfl))
  f314 := Tryd.func87.trans (congrArg some (by kernel_rfl))
  t0 := Tryd.underlying0
  a0 := Tryd.isAgg0
  z0 := Tryd.sizeOf0
  v0 := Tryd.zeroValue0
  t3 := Tryd.underlying3
  a3 := Tryd.isAgg3
  z3 := Tryd.sizeOf3
  v3 := Tryd.zeroValue3
  t4 := Tryd.underlying4
  a4 := Tryd.isAgg4
  z4 := Tryd.sizeOf4
  v4 := Tryd.zeroValue4
  t5 := Tryd.underlying5
  a5 := Tryd.isAgg5
  z5 := Tryd.sizeOf5
  v5 := Tryd.zeroValue5
  t9 := Tryd.underlying9
  a9 := Tryd.isAgg9
  z9 := Tryd.sizeOf9
  v9 := Tryd.zeroValue9
  t21 := Tryd.underlying21
  a21 := Tryd.isAgg21
  z21 := Tryd.sizeOf21
  v21 := Tryd.zeroValue21
  t31 := Tryd.underlying38
  a31 := Tryd.isAgg38
  z31 := Tryd.sizeOf38
  v31 := Tryd.zeroValue38
  t46 := Tryd.underlying105
  a46 := Tryd.isAgg105
  z46 := Tryd.sizeOf105
  v46 := Tryd.zeroValue105
  t51 := Tryd.underlying112
  a51 := Tryd.isAgg112
  z51 := Tryd.sizeOf112
  v51 := Tryd.zeroValue112
  t105 := Tryd.underlying110
  a105 := Tryd.isAgg110
  z105 := Tryd.sizeOf110
  v105 := Tryd.zeroValue110
  t119 := Tryd.underlying141
  a119 := Tryd.isAgg141
  z119 := Tryd.sizeOf141
  t138 := Tryd.underlying143
  a138 := Tryd.isAgg143
  z138 := Tryd.sizeOf143
  v138 := Tryd.zeroValue143
  t139 := Tryd.underlying144
  a139 := Tryd.isAgg144
  z139 := Tryd.sizeOf144
  v139 := Tryd.zeroValue144
  t146 := Tryd.underlying113
  a146 := Tryd.isAgg113
  z146 := Tryd.sizeOf113
  v146 := Tryd.zeroValue113
  g1 := by kernel_rfl
  g3 := by kernel_rfl
  g4 := by kernel_rfl }
open Go.RowKit Go.Lib in
theorem Tryd.strings_Split (s sep : ByteArray) (m : Int) (w : World) (hs : s.size < 4294967281) (hm : w.cell? ⟨0, 0, none⟩ = some (.int .i64 m)) (h1 : 1 ≤ sep.size) :
    Calls Tryd.prog 33 #[.string s, .string sep] w fun e w' =>
      e = .returned (.slice (some ⟨w.heap.size, 0, none⟩) (Lib.countB s sep + 1) (Lib.countB s sep + 1)) ∧ w' = w.alloc (.cells ((Lib.splitB sep 0 (Lib.countB s sep) s).map Value.string).toArray 9) := Any.strings_Split Tryd.lays146 (by kernel_rfl) s sep m w hs hm h1
def Tryd.laysC174_ren : Go.Shelf.Ren := ⟨fun | 174 => 64 | 247 => 78 | 245 => 79 | 287 => 88 | 279 => 89 | 280 => 90 | 281 => 91 | 282 => 92 | 321 => 98 | 322 => 99 | 316 => 100 | 171 => 102 | 205 => 101 | 243 => 109 | 246 => 93 | 283 => 103 | 284 => 104 | 285 => 105 | 286 => 106 | 129 => 111 | 317 => 110 | 318 => 112 | 319 => 113 | 320 => 114 | 337 => 117 | 338 => 118 | n => n, fun | 9 => 9 | 3 => 3 | 2 => 2 | 75 => 95 | 85 => 96 | 4 => 4 | 167 => 115 | 5 => 5 | 53 => 116 | 175 => 117 | 46 => 105 | 168 => 119 | 37 => 102 | 0 => 0 | 210 => 132 | 21 => 21 | 127 => 140 | 145 => 147 | 143 => 145 | 171 => 135 | 173 => 138 | 212 => 149 | 51 => 112 | 20 => 20 | 213 => 150 | 232 => 157 | 233 => 158 | 80 => 128 | n => n, fun | 15 => 1 | 16 => 2 | 17 => 5 | 18 => 6 | 19 => 7 | n => n⟩
theorem Tryd.laysC174 : Go.Proofs.LaysC.n174 Tryd.prog Tryd.laysC174_ren := {
  mixed := by kernel_rfl
  f129 := Tryd.func111.trans (congrArg some (by kernel_rfl))
  f171 := Tryd.func102.trans (congrArg some (by kernel_rfl))
  f174 := Tryd.func64.trans (congrArg some (by kernel_rfl))
  f205 := Tryd.func101.trans (congrArg some (by kernel_rfl))
  f243 := Tryd.func109.trans (congrArg some (by kernel_rfl))
  f245 := Tryd.func79.trans (congrArg some (by kernel_rfl))
  f246 := Tryd.func93.trans (congrArg some (by kernel_rfl))
  f247 := Tryd.func78.trans (congrArg some (by kernel_rfl))
  f279 := Tryd.func89.trans (congrArg some (by kernel_rfl))
  f280 := Tryd.func90.trans (congrArg some (by kernel_rfl))
  f281 := Tryd.func91.trans (congrArg some (by kernel_rfl))
  f282 := Tryd.func92.trans (congrArg some (by kernel_rfl))
  f283 := Tryd.func103.trans (congrArg some (by kernel_rfl))
  f284 := Tryd.func104.trans (congrArg some (by kernel_rfl))
  f285 := Tryd.func105.trans (congrArg some (by kernel_rfl))
  f286 := Tryd.func106.trans (congrArg some (by kernel_rfl))
  f287 := Tryd.func88.trans (congrArg some (by kernel_rfl))
  f316 := Tryd.func100.trans (congrArg some (by kernel_rfl))
  f317 := Tryd.func110.trans (congrArg some (by kernel_rfl))
  f318 := Tryd.func112.trans (congrArg some (by kernel_rfl))
  f319 := Tryd.func113.trans (congrArg some (by kernel_rfl))
  f320 := Tryd.func114.trans (congrArg some (by kernel_rfl))
  f321 := Tryd.func98.trans (congrArg some (by kernel_rfl))
  f322 := Tryd.func99.trans (congrArg some (by kernel_rfl))
  f337 := Tryd.func117.trans (congrArg some (by kernel_rfl))
  f338 := Tryd.func118.trans (congrArg some (by kernel_rfl))
  t0 := Tryd.underlying0
  a0 := Tryd.isAgg0
  z0 := Tryd.sizeOf0
  v0 := Tryd.zeroValue0
  t2 := Tryd.underlying2
  a2 := Tryd.isAgg2
  z2 := Tryd.sizeOf2
  v2 := Tryd.zeroValue2
  t3 := Tryd.underlying3
  a3 := Tryd.isAgg3
  z3 := Tryd.sizeOf3
  v3 := Tryd.zeroValue3
  t4 := Tryd.underlying4
  a4 := Tryd.isAgg4
  z4 := Tryd.sizeOf4
  v4 := Tryd.zeroValue4
  t5 := Tryd.underlying5
  a5 := Tryd.isAgg5
  z5 := Tryd.sizeOf5
  v5 := Tryd.zeroValue5
  t9 := Tryd.underlying9
  a9 := Tryd.isAgg9
  z9 := Tryd.sizeOf9
  v9 := Tryd.zeroValue9
  t20 := Tryd.underlying20
  a20 := Tryd.isAgg20
  z20 := Tryd.sizeOf20
  v20 := Tryd.zeroValue20
  t21 := Tryd.underlying21
  a21 := Tryd.isAgg21
  z21 := Tryd.sizeOf21
  v21 := Tryd.zeroValue21
  t37 := Tryd.underlying102
  a37 := Tryd.isAgg102
  z37 := Tryd.sizeOf102
  v37 := Tryd.zeroValue102
  t46 := Tryd.underlying105
  a46 := Tryd.isAgg105
  z46 := Tryd.sizeOf105
  v46 := Tryd.zeroValue105
  t51 := Tryd.underlying112
  a51 := Tryd.isAgg112
  z51 := Tryd.sizeOf112
  v51 := Tryd.zeroValue112
  t53 := Tryd.underlying116
  a53 := Tryd.isAgg116
  z53 := Tryd.sizeOf116
  v53 := Tryd.zeroValue116
  t75 := Tryd.underlying95
  a75 := Tryd.isAgg95
  z75 := Tryd.sizeOf95
  v75 := Tryd.zeroValue95
  t85 := Tryd.underlying96
  a85 := Tryd.isAgg96
  z85 := Tryd.sizeOf96
  v85 := Tryd.zeroValue96
  t127 := Tryd.underlying140
  a127 := Tryd.isAgg140
  z127 := Tryd.sizeOf140
  v127 := Tryd.zeroValue140
  t143 := Tryd.underlying145
  a143 := Tryd.isAgg145
  z143 := Tryd.sizeOf145
  v143 := Tryd.zeroValue145
  t145 := Tryd.underlying147
  a145 := Tryd.isAgg147
  z145 := Tryd.sizeOf147
  v145 := Tryd.zeroValue147
  t167 := Tryd.underlying115
  a167 := Tryd.isAgg115
  z167 := Tryd.sizeOf115
  v167 := Tryd.zeroValue115
  t168 := Tryd.underlying119
  a168 := Tryd.isAgg119
  z168 := Tryd.sizeOf119
  v168 := Tryd.zeroValue119
  t171 := Tryd.underlying135
  a171 := Tryd.isAgg135
  z171 := Tryd.sizeOf135
  v171 := Tryd.zeroValue135
  t173 := Tryd.underlying138
  a173 := Tryd.isAgg138
  z173 := Tryd.sizeOf138
  v173 := Tryd.zeroValue138
  t175 := Tryd.underlying117
  a175 := Tryd.isAgg117
  z175 := Tryd.sizeOf117
  v175 := Tryd.zeroValue117
  t210 := Tryd.underlying132
  a210 := Tryd.isAgg132
  z210 := Tryd.sizeOf132
  v210 := Tryd.zeroValue132
  t212 := Tryd.underlying149
  a212 := Tryd.isAgg149
  z212 := Tryd.sizeOf149
  v212 := Tryd.zeroValue149
  t213 := Tryd.underlying150
  a213 := Tryd.isAgg150
  z213 := Tryd.sizeOf150
  t232 := Tryd.underlying157
  a232 := Tryd.isAgg157
  z232 := Tryd.sizeOf157
  v232 := Tryd.zeroValue157
  t233 := Tryd.underlying158
  a233 := Tryd.isAgg158
  z233 := Tryd.sizeOf158
  v233 := Tryd.zeroValue158
  g15 := by kernel_rfl
  g16 := by kernel_rfl
  g17 := by kernel_rfl
  g18 := by kernel_rfl
  g19 := by kernel_rfl
  t80 := Tryd.underlying128
  a80 := Tryd.isAgg128
  z80 := Tryd.sizeOf128
  v80 := Tryd.zeroValue128
  i0 := by kernel_rfl
  i2 := by kernel_rfl
  i3 := by kernel_rfl
  i4 := by kernel_rfl
  i5 := by kernel_rfl
  i9 := by kernel_rfl
  i20 := by kernel_rfl
  i21 := by kernel_rfl
  i37 := by kernel_rfl
  i46 := by kernel_rfl
  i51 := by kernel_rfl
  i53 := by kernel_rfl
  i75 := by kernel_rfl
  i80 := by kernel_rfl
  i85 := by kernel_rfl
  i127 := by kernel_rfl
  i143 := by kernel_rfl
  i145 := by kernel_rfl
  i167 := by kernel_rfl
  i168 := by kernel_rfl
  i171 := by kernel_rfl
  i173 := by kernel_rfl
  i175 := by kernel_rfl
  i210 := by kernel_rfl
  i212 := by kernel_rfl
  i232 := by kernel_rfl
  i233 := by kernel_rfl
  m15 := by kernel_rfl
  m16 := by kernel_rfl
  m17 := by kernel_rfl
  m18 := by kernel_rfl
  m19 := by kernel_rfl
  c0 := by kernel_rfl
  c2 := by kernel_rfl
  c3 := by kernel_rfl
  c4 := by kernel_rfl
  c5 := by kernel_rfl
  c9 := by kernel_rfl
  c20 := by kernel_rfl
  c21 := by kernel_rfl
  c37 := by kernel_rfl
  c46 := by kernel_rfl
  c51 := by kernel_rfl
  c53 := by kernel_rfl
  c75 := by kernel_rfl
  c80 := by kernel_rfl
  c85 := by kernel_rfl
  c127 := by kernel_rfl
  c143 := by kernel_rfl
  c145 := by kernel_rfl
  c167 := by kernel_rfl
  c168 := by kernel_rfl
  c171 := by kernel_rfl
  c173 := by kernel_rfl
  c175 := by kernel_rfl
  c210 := by kernel_rfl
  c212 := by kernel_rfl
  c213 := by kernel_rfl
  c232 := by kernel_rfl
  c233 := by kernel_rfl }
open Go.RowKit in
theorem Tryd.strconv_ParseInt_10_at64_ok (s : ByteArray) (hmax : s.size ≤ 9223372036854775806) (v : Int) (h : Lib.parseIntB 64 s.data.toList = .ok v) (w : World) :
    Calls Tryd.prog 64 #[.string s, .int .i64 10, .int .i64 64] w fun e w' => e = .returned (.tuple #[.int .i64 v, .nilIface]) ∧ (w' = w ∨ ∃ t, w' = Lib.bytesWorld w 5 t) := Any.strconv_ParseInt_10_at64_ok Tryd.laysC174 s hmax v h w
open Go.RowKit in
theorem Tryd.strconv_ParseInt_10_at64_syntax (s : ByteArray) (hlim : s.size ≤ 281474976710656) (h : Lib.parseIntB 64 s.data.toList = Go.Lib.NumEnd.syntax) (ev : Value) (w : World) (hv : w.cell? ⟨1, 0, none⟩ = some ev) (hev : ev = .nilIface ∨ ∃ te pe, ev = .iface te pe) :
    Calls Tryd.prog 64 #[.string s, .int .i64 10, .int .i64 64] w fun e w' => ∃ N, e = .returned (.tuple #[.int .i64 (0), .iface 119 (.pointer (some ⟨N, 0, none⟩))]) ∧ w.heap.size ≤ N ∧ w'.heap[N]? = some (.cells #[.string ⟨#[80, 97, 114, 115, 101, 73, 110, 116]⟩, .string s, ev] 132 (0, 0)) ∧ Below w.heap.size w w' := Any.strconv_ParseInt_10_at64_syntax Tryd.laysC174 s hlim h ev w hv hev
open Go.RowKit in
theorem Tryd.strconv_ParseInt_10_at64_range (s : ByteArray) (hlim : s.size ≤ 281474976710656) (h : Lib.parseIntB 64 s.data.toList = .range) (ev : Value) (w : World) (hv : w.cell? ⟨2, 0, none⟩ = some ev) (hev : ev = .nilIface ∨ ∃ te pe, ev = .iface te pe) :
    Calls Tryd.prog 64 #[.string s, .int .i64 10, .int .i64 64] w fun e w' => ∃ N, e = .returned (.tuple #[.int .i64 (Lib.intSat 64 s.data.toList), .iface 119 (.pointer (some ⟨N, 0, none⟩))]) ∧ w.heap.size ≤ N ∧ w'.heap[N]? = some (.cells #[.string ⟨#[80, 97, 114, 115, 101, 73, 110, 116]⟩, .string s, ev] 132 (0, 0)) ∧ Below w.heap.size w w' := Any.strconv_ParseInt_10_at64_range Tryd.laysC174 s hlim h ev w hv hev
def Tryd.lays109_ren : Go.Shelf.Ren := ⟨fun | 109 => 23 | n => n, fun | 31 => 38 | 9 => 9 | 3 => 3 | 0 => 0 | 4 => 4 | n => n, fun | n => n⟩
theorem Tryd.lays109 : Go.Proofs.Lays.n109 Tryd.prog Tryd.lays109_ren := {
  mixed := by kernel_rfl
  f109 := Tryd.func23.trans (congrArg some (by kernel_rfl))
  t0 := Tryd.underlying0
  a0 := Tryd.isAgg0
  z0 := Tryd.sizeOf0
  v0 := Tryd.zeroValue0
  t3 := Tryd.underlying3
  a3 := Tryd.isAgg3
  z3 := Tryd.sizeOf3
  v3 := Tryd.zeroValue3
  t4 := Tryd.underlying4
  a4 := Tryd.isAgg4
  z4 := Tryd.sizeOf4
  v4 := Tryd.zeroValue4
  t9 := Tryd.underlying9
  a9 := Tryd.isAgg9
  z9 := Tryd.sizeOf9
  v9 := Tryd.zeroValue9
  t31 := Tryd.underlying38
  a31 := Tryd.isAgg38
  z31 := Tryd.sizeOf38
  v31 := Tryd.zeroValue38 }
open Go.Lib in
theorem Tryd.slices_Index_string (b off n c : Nat) (zs : List ByteArray) (x : ByteArray) (w : World) (hz : n ≤ zs.length) (hbig : n ≤ 9223372036854775807) (hc : ∀ j, j < zs.length → w.cell? ⟨b, off + j, none⟩ = some (.string (zs.getD j ByteArray.empty))) :
    Calls Tryd.prog 23 #[.slice (some ⟨b, off, none⟩) n c, .string x] w fun e w' => e = .returned (.int .i64 (Lib.idxOfS (zs.take n) x)) ∧ w' = w := Any.slices_Index_string Tryd.lays109 b off n c zs x w hz hbig hc
open Go.Lib in
theorem Tryd.slices_Index_string_empty (a : Option Addr) (c : Nat) (x : ByteArray) (w : World) :
    Calls Tryd.prog 23 #[.slice a 0 c, .string x] w fun e w' => e = .returned (.int .i64 (Lib.idxOfS [] x)) ∧ w' = w := Any.slices_Index_string_empty Tryd.lays109 a c x w
end Go.Proofs
namespace Go.Hl

open Go.Proofs
set_option linter.unusedVariables false
set_option linter.unusedSimpArgs false
theorem laid_int {E : Env} {h : Heap} {w : World} (x : LaidIn E h w) : ∃ m, w.cell? ⟨0, 0, none⟩ = some (.int .i64 m) := by
  obtain ⟨cs, h1, m, h2⟩ := x.cell (g := 0) (Q := fun cs => ∃ m, cs[0]? = some (.int .i64 m)) (by unfold laidBlocks; exact List.mem_cons_of_mem _ (List.mem_cons_of_mem _ (List.mem_cons_of_mem _ List.mem_cons_self)))
  exact ⟨m, (h1 0).trans h2⟩
theorem laid_syn {E : Env} {h : Heap} {w : World} (x : LaidIn E h w) : ∃ v, w.cell? ⟨1, 0, none⟩ = some v ∧ (v = .nilIface ∨ ∃ te pe, v = .iface te pe) := by
  obtain ⟨cs, h1, v, h2, h3⟩ := x.cell (g := 1) (Q := fun cs => ∃ v, cs[0]? = some v ∧ (v = .nilIface ∨ ∃ te pe, v = .iface te pe)) (by unfold laidBlocks; exact List.mem_cons_of_mem _ List.mem_cons_self)
  exact ⟨v, (h1 0).trans h2, h3⟩
theorem laid_ran {E : Env} {h : Heap} {w : World} (x : LaidIn E h w) : ∃ v, w.cell? ⟨2, 0, none⟩ = some v ∧ (v = .nilIface ∨ ∃ te pe, v = .iface te pe) := by
  obtain ⟨cs, h1, v, h2, h3⟩ := x.cell (g := 2) (Q := fun cs => ∃ v, cs[0]? = some v ∧ (v = .nilIface ∨ ∃ te pe, v = .iface te pe)) (by unfold laidBlocks; exact List.mem_cons_of_mem _ (List.mem_cons_of_mem _ List.mem_cons_self))
  exact ⟨v, (h1 0).trans h2, h3⟩
theorem below_drewN (B : Nat) (w : World) (n : Nat) : Go.RowKit.Below B w (w.drewN n) := ⟨rfl, rfl, rfl, Nat.le_refl _, fun _ _ => rfl⟩
theorem cut_len (a sep : List UInt8) : (Go.Lib.cut a sep).1.length ≤ a.length ∧ (Go.Lib.cut a sep).2.1.length ≤ a.length := by
  unfold Go.Lib.cut
  split
  · simp only [List.length_take, List.length_drop]; omega
  · simp
theorem RepL.tup {E : Env} {h : Heap} {w : World} {xs : List HVal} {vs : List Value} (r : RepL E h w xs vs) : Rep E h w (.tup xs) (.tuple vs.toArray) := .tup _ _ r.length r.get
theorem cutC (a sep : List UInt8) (ha : a.length < 4294967281) : Fn0 Tryd.prog 22 [.str a, .str sep] (.tup [.str (Go.Lib.cut a sep).1, .str (Go.Lib.cut a sep).2.1, .bool (Go.Lib.cut a sep).2.2]) :=
  fn0_below (by kernel_rfl) fun E h w vs R rl => by
    match vs, rl with
    | [v0, v1], rl =>
      obtain ⟨r0, r1, _⟩ := rl
      obtain ⟨rfl, h0⟩ := rep_str r0
      obtain ⟨rfl, h1⟩ := rep_str r1
      obtain ⟨m, hm⟩ := laid_int R.laid
      have hl := cut_len a sep
      refine (Go.Proofs.Tryd.strings_Cut ⟨a.toArray⟩ ⟨sep.toArray⟩ m w (by simpa [ByteArray.size] using ha) hm).mono fun e w' ⟨he, n, hw⟩ => ⟨_, he, fun E' h' w' => ?_, hw ▸ below_drewN _ w n⟩
      exact RepL.tup (xs := [_, _, _]) (vs := [_, _, _]) ⟨.str _ (by simp only [maxLen]; omega), .str _ (by simp only [maxLen]; omega), .bool _, trivial⟩
/-- The error of strconv.ParseInt. -/
def errV (s : List UInt8) : HVal := match Go.Lib.parseIntB 64 s with | .ok _ => .nilif | _ => .iface 119 .any
theorem parseInt (s : List UInt8) (hs : s.length ≤ 281474976710656) : Fn0 Tryd.prog 64 [.str s, I 10, I 64] (.tup [I (rdN s), errV s]) :=
  fn0_below (by kernel_rfl) fun E h w vs R rl => by
    match vs, rl with
    | [v0, v1, v2], rl =>
      obtain ⟨r0, r1, r2, _⟩ := rl
      obtain ⟨rfl, h0⟩ := rep_str r0
      rw [rep_int r1, rep_int r2]
      have hz : (⟨s.toArray⟩ : ByteArray).size ≤ 281474976710656 := by simpa [ByteArray.size] using hs
      unfold rdN errV
      cases e : Go.Lib.parseIntB 64 s with
      | ok v =>
        refine (Go.Proofs.Tryd.strconv_ParseInt_10_at64_ok ⟨s.toArray⟩ (by omega) v e w).mono fun e w' ⟨he, hw⟩ => ⟨_, he, fun E' h' w' => RepL.tup (xs := [_, _]) (vs := [_, _]) ⟨.int _ _, .nilif, trivial⟩, ?_⟩
        rcases hw with rfl | ⟨t, rfl⟩
        · exact Go.RowKit.Below.refl _ _
        · exact ⟨rfl, rfl, rfl, by rw [Go.Lib.bytesWorld_size]; omega, fun j hj => Go.Lib.bytesWorld_at_old w _ t j hj⟩
      | range =>
        obtain ⟨ev, hv, hev⟩ := laid_ran R.laid
        exact (Go.Proofs.Tryd.strconv_ParseInt_10_at64_range ⟨s.toArray⟩ hz e _ w hv hev).mono fun e w' ⟨N, he, _, _, hw⟩ => ⟨_, he, fun E' h' w' => RepL.tup (xs := [_, _]) (vs := [_, _]) ⟨.int _ _, .iface _ _ _ (.any _), trivial⟩, hw⟩
      | _ =>
        obtain ⟨ev, hv, hev⟩ := laid_syn R.laid
        exact (Go.Proofs.Tryd.strconv_ParseInt_10_at64_syntax ⟨s.toArray⟩ hz e _ w hv hev).mono fun e w' ⟨N, he, _, _, hw⟩ => ⟨_, he, fun E' h' w' => RepL.tup (xs := [_, _]) (vs := [_, _]) ⟨.int _ _, .iface _ _ _ (.any _), trivial⟩, hw⟩
theorem fn0_strs {P : Program} {f : FuncId} {args : List HVal} {l : List (List UInt8)} (hc : callable P f = true) (hlen : l.length ≤ maxLen) (hs : ∀ s ∈ l, s.length ≤ maxLen)
    (H : ∀ E h w vs, Rel E h w → RepL E h w args vs → Calls P f vs.toArray w fun e w' => ∃ t, e = .returned (.slice (some ⟨w.heap.size, 0, none⟩) l.length l.length) ∧ w' = w.alloc (.cells (l.map fun s => Value.string ⟨s.toArray⟩).toArray t)) : Fn0 P f args (sls 1 (fun s => [.str s]) l) := fun h =>
  ⟨hc, fun E w vs R rl => (H E h w vs R rl).mono fun e w' q => by
    obtain ⟨t, rfl, rfl⟩ := q
    have bel : Go.RowKit.Below w.heap.size w (w.alloc (.cells (l.map fun s => Value.string ⟨s.toArray⟩).toArray t)) := (Go.RowKit.Below.refl _ w).alloc (Nat.le_refl _) _
    have hb : (w.alloc (.cells (l.map fun s => Value.string ⟨s.toArray⟩).toArray t)).heap[w.heap.size]? = some (.cells (l.map fun s => Value.string ⟨s.toArray⟩).toArray t) := by
      show (w.heap.push _)[w.heap.size]? = _
      simp
    refine ⟨_, h, E, ⟨rfl, rfl⟩, ev_below bel, rel_below R bel, ?_⟩
    have hat : ∀ (i j : Nat) (x : HVal), at2 (l.map fun s => [HVal.str s]) i j = some x → ∃ s, l[i]? = some s ∧ j = 0 ∧ x = .str s := fun i j x hx => by
      obtain ⟨e, he, hj⟩ := at2_some hx
      rw [List.getElem?_map] at he
      obtain ⟨s, hs, rfl⟩ := Option.map_eq_some_iff.1 he
      cases j with
      | zero => exact ⟨s, hs, rfl, (Option.some.inj hj).symm⟩
      | succ j => simp at hj
    have := Rep.sl (E := E) (h := h) (w := w.alloc (.cells (l.map fun s => Value.string ⟨s.toArray⟩).toArray t)) 1 (l.map fun s => [HVal.str s]) false w.heap.size 0 l.length (fun i _ => ((l.map fun s => Value.string ⟨s.toArray⟩)[i]?).getD .nilFunc) ⟨by show _ < (w.heap.push _).size; simp, fun n o hn ho hf => Nat.lt_irrefl _ (R.lt n o _ hn ho hf)⟩ (by simp) hlen (fun q => by cases q) (fun e he => by obtain ⟨s, _, rfl⟩ := List.mem_map.1 he; rfl)
      (fun i j x hx => by
        obtain ⟨s, h1, rfl, rfl⟩ := hat i j x hx
        simp only [World.cell?, hb]
        simp [h1])
      (fun i j x hx => by
        obtain ⟨s, h1, rfl, rfl⟩ := hat i j x hx
        simp [h1, Value.oneCell'])
      (fun i j x hx => by
        obtain ⟨s, h1, rfl, rfl⟩ := hat i j x hx
        simp only [List.getElem?_map, h1, Option.map_some, Option.getD_some]
        exact .str s (hs s (List.mem_of_getElem? h1)))
    rw [List.length_map] at this
    exact this⟩
theorem spB_len (c : UInt8) (a : List UInt8) : (spB c a).length ≤ a.length + 1 ∧ ∀ s ∈ spB c a, s.length ≤ a.length := by
  induction hn : a.length using Nat.strongRecOn generalizing a with
  | _ n ih =>
    rcases spB_cases c a with h | ⟨p, r, h1, rfl⟩
    · rw [spB_one a h]; exact ⟨by simp, fun s hs => by rw [List.mem_singleton.1 hs]; omega⟩
    · rw [spB_pre p r h1]
      obtain ⟨h2, h3⟩ := ih r.length (by rw [← hn]; simp; omega) r rfl
      simp only [List.length_append, List.length_cons] at hn
      refine ⟨by simp only [List.length_cons]; omega, fun s hs => ?_⟩
      rcases List.mem_cons.1 hs with rfl | hs
      · omega
      · have := h3 s hs; omega
theorem splitB_strs (a : List UInt8) (c : UInt8) : (Go.Lib.splitB ⟨[c].toArray⟩ 0 (Go.Lib.countB ⟨a.toArray⟩ ⟨[c].toArray⟩) ⟨a.toArray⟩).map Value.string = (spB c a).map fun s => Value.string ⟨s.toArray⟩ := by
  have h1 := Go.Lib.splitB_data ⟨[c].toArray⟩ 0 (Go.Lib.countB ⟨a.toArray⟩ ⟨[c].toArray⟩) ⟨a.toArray⟩
  have h2 : Go.Lib.splitK [c] 0 (Go.Lib.countB ⟨a.toArray⟩ ⟨[c].toArray⟩) a = spB c a := split_spB c a
  rw [← h2, ← h1, List.map_map]
  refine List.map_congr_left fun b _ => ?_
  simp
theorem splitC (a : List UInt8) (c : UInt8) (ha : a.length < 4294967281) : Fn0 Tryd.prog 33 [.str a, .str [c]] (sls 1 (fun s => [.str s]) (spB c a)) := by
  have hl := spB_len c a
  refine fn0_strs (by kernel_rfl) (by simp only [maxLen]; omega) (fun s hs => by have := hl.2 s hs; simp only [maxLen]; omega) fun E h w vs R rl => ?_
  match vs, rl with
  | [v0, v1], rl =>
    obtain ⟨r0, r1, _⟩ := rl
    obtain ⟨rfl, h0⟩ := rep_str r0
    obtain ⟨rfl, h1⟩ := rep_str r1
    obtain ⟨m, hm⟩ := laid_int R.laid
    have hn : Go.Lib.countB ⟨a.toArray⟩ ⟨[c].toArray⟩ + 1 = (spB c a).length := by
      have h2 := Go.Lib.splitB_all ⟨[c].toArray⟩ (by show 1 ≤ [c].length; simp) 0 _ ⟨a.toArray⟩ rfl
      have h3 := congrArg List.length (splitB_strs a c)
      rw [List.length_map, List.length_map] at h3
      rw [← h3]; exact h2.symm
    refine (Go.Proofs.Tryd.strings_Split ⟨a.toArray⟩ ⟨[c].toArray⟩ m w (by simpa [ByteArray.size] using ha) hm (by show 1 ≤ [c].length; simp)).mono fun e w' ⟨he, hw⟩ => ⟨9, ?_, ?_⟩
    · rw [he, hn]
    · rw [hw, splitB_strs]
theorem indexS (l : List (List UInt8)) (t : Bool) (x : List UInt8) (hl : l.length ≤ 1048576) : Fn0 Tryd.prog 23 [.sl 1 (l.map fun s => [.str s]) t, .str x] (I (Go.Lib.idxOfS (l.map fun s => ⟨s.toArray⟩) ⟨x.toArray⟩)) :=
  fn0_below (by kernel_rfl) fun E h w vs R rl => by
    match vs, rl with
    | [v0, v1], rl =>
      obtain ⟨r0, r1, _⟩ := rl
      obtain ⟨rfl, h1⟩ := rep_str r1
      rcases rep_sl r0 with ⟨e, a, cap, rfl⟩ | ⟨b, o, cap, rfl, hb, hcap, hcs⟩
      · have e : l = [] := by simpa using e
        subst e
        exact (Go.Proofs.Tryd.slices_Index_string_empty a cap ⟨x.toArray⟩ w).mono fun e w' ⟨he, hw⟩ => ⟨_, he, fun _ _ _ => .int _ _, hw ▸ Go.RowKit.Below.refl _ _⟩
      · rw [List.length_map] at hcap ⊢
        have := Go.Proofs.Tryd.slices_Index_string b o l.length cap (l.map fun s => (⟨s.toArray⟩ : ByteArray)) ⟨x.toArray⟩ w (by simp) (by omega) (fun j hj => by
          rw [List.length_map] at hj
          obtain ⟨c, h1, h2⟩ := hcs j 0 (.str l[j]) (by simp [at2, List.getElem?_eq_getElem hj])
          rw [(rep_str h2).1] at h1
          rw [List.getD_eq_getElem?_getD, List.getElem?_map, List.getElem?_eq_getElem hj]
          simpa using h1)
        rw [show (l.map fun s => (⟨s.toArray⟩ : ByteArray)).take l.length = l.map fun s => (⟨s.toArray⟩ : ByteArray) from List.take_of_length_le (by simp)] at this
        exact this.mono fun e w' ⟨he, hw⟩ => ⟨_, he, fun _ _ _ => .int _ _, hw ▸ Go.RowKit.Below.refl _ _⟩
theorem spB_step {c : UInt8} {s : List UInt8} {f i : Nat} (hf : f ≤ i) (hi : s[i]? = some c) (hn : c ∉ (s.drop f).take (i - f)) : spB c (s.drop f) = (s.drop f).take (i - f) :: spB c (s.drop (i + 1)) := by
  have h1 : s.drop f = (s.drop f).take (i - f) ++ c :: s.drop (i + 1) := by
    have h2 := (List.take_append_drop (i - f) (s.drop f)).symm
    rw [List.drop_drop, show f + (i - f) = i by omega] at h2
    have h3 : i < s.length := (List.getElem?_eq_some_iff.1 hi).1
    rw [List.drop_eq_getElem_cons h3] at h2
    rw [List.getElem?_eq_getElem h3] at hi
    rw [Option.some.inj hi] at h2
    exact h2
  exact (congrArg (spB c) h1).trans (spB_pre _ _ hn)
theorem notin_next {c : UInt8} {s : List UInt8} {f i : Nat} {x : UInt8} (hf : f ≤ i) (hi : s[i]? = some x) (hx : ¬ x = c) (hn : c ∉ (s.drop f).take (i - f)) : c ∉ (s.drop f).take (i + 1 - f) := by
  rw [show i + 1 - f = (i - f) + 1 by omega, List.take_add_one]
  rw [List.getElem?_drop, show f + (i - f) = i by omega, hi]
  simp only [List.mem_append, not_or]
  exact ⟨hn, by simp only [Option.toList_some, List.mem_singleton]; exact fun q => hx q.symm⟩
open Go.Proofs
set_option linter.unusedVariables false
set_option linter.unusedSimpArgs false
theorem own_rowW {α : Type} {c : α → HVal} {l : List α} {sz n len : Nat} {h h' : Heap} (w : HVal → HVal) (hn : h n = none) (hl : (upd h n (.row sz ((l.map fun x => [c x]).map (List.map .v)))).le h') (e : len = l.length) :
    ∃ r1 g l1, Shift (w (.os n sz 0 len)) h' r1 g ∧ QS (OS (oP c) sz l) w r1 l1 ∧ New h l1 g := by
  subst e
  refine ⟨w (OV.sl n sz (l.map fun x => [.v (c x)])).val, upd h n (.row sz ((l.map fun x => [c x]).map (List.map .v))), _, ?_, ⟨_, OS.mk (OR_map l), rfl, rfl⟩, ?_⟩
  · rw [OV.val_prim]; exact Shift.of (Sub.refl _) hl
  · rw [OV.sl_rows, rows_map, cells_map]; exact New.one hn
theorem own_empW {α : Type} {c : α → HVal} {l : List α} {sz : Nat} {h h' : Heap} {x : HVal} (w : HVal → HVal) (hw : WSub w) (hx : Sub x (.sl sz [] true)) (hl : h.le h') (e : l = []) :
    ∃ r1 g l1, Shift (w x) h' r1 g ∧ QS (OS (oP c) sz l) w r1 l1 ∧ New h l1 g := by
  subst e
  refine ⟨w (OV.nil sz).val, h, _, Shift.of (hw _ _ hx) hl, ⟨_, OS.nil, rfl, rfl⟩, ?_⟩
  rw [OV.nil_rows]; exact New.nil h
def keep15 : List Nat := [0, 1, 4, 5, 6, 7, 12, 19]
def ib15 : List Nat := [8, 25, 33]
def mk15 : Marks := fun _ => ([], .nil, [])
set_option maxRecDepth 100000 in
theorem l01SplitN (s : List UInt8) (c : UInt8) (hs : s.length ≤ 1048600) : FnN Tryd.prog 15 [.str s, .int .u8 c.toNat] (QS (OS (oP .str) 1 (spB c s))) := by
  refine fnNF 35 keep15 ib15 mk15 mix Tryd.func15 rfl (by kernel_rfl) (by simp) fun h => ?_
  simp (maxSteps := 1000000) -dsimp -implicitDefEqProofs only [go_sem, ↓reduceIte, keep15, ib15, mk15, Tryd.f15]
  repeat' (with_reducible first | intro _ | refine And.intro ?_ ?_)
  all_goals try (first | omega | decide)
  refine loopF (keep := keep15) (ib := ib15) (mk := mk15) mix (by kernel_rfl) (fun x : Nat × Nat × List (List UInt8) × Option Nat => [(0, .str s), (1, .int .u8 c.toNat), (5, oval 1 x.2.2.1.length x.2.2.2), (6, I x.2.1), (7, I x.1)]) (fun x => oheap h (.row 1 ((x.2.2.1.map fun n => [.str n]).map (List.map .v))) x.2.2.2) (fun x => (x.2.1 ≤ x.1 ∧ x.1 ≤ s.length) ∧ oside h x.2.2.1 x.2.2.2 ∧ spB c s = x.2.2.1 ++ spB c (s.drop x.2.1) ∧ c ∉ (s.drop x.2.1).take (x.1 - x.2.1)) (fun x => s.length - x.1) (0, 0, [], none) (by simp [SatL, tget, Heap.le_refl, oval, oheap, oside]) ?_
  rintro ⟨k, f, out, o⟩ ⟨⟨hf, hk⟩, ho, he, hn⟩
  simp only at hf hk ho he hn ⊢
  have hol : out.length ≤ s.length := by
    have h1 := (spB_len c s).1
    have h2 := congrArg List.length he
    have h3 := List.length_pos_iff.2 (spB_ne c (s.drop f))
    rw [List.length_append] at h2; omega
  rcases Nat.lt_or_ge k s.length with hlt | hge
  · have ea : s[k]? = some s[k] := List.getElem?_eq_getElem hlt
    have hc : s[k].toNat = c.toNat → s[k]? = some c := fun q => by rw [ea]; congr 1; exact UInt8.toNat.inj q
    have hd : ¬ s[k].toNat = c.toNat → ¬ s[k] = c := fun q e => q (by rw [e])
    have hy : ∀ q : s[k].toNat = c.toNat, spB c s = (out ++ [List.drop f (List.take k s)]) ++ spB c (s.drop (k + 1)) := fun q => by
      rw [he, spB_step hf (hc q) hn, List.append_assoc, List.drop_take]; rfl
    cases o with
    | none =>
      rw [oside_none] at ho
      subst ho
      simp (maxSteps := 1000000) -dsimp -implicitDefEqProofs only [go_sem, ↓reduceIte, keep15, ib15, mk15, Tryd.f15, oval_none, oheap_none, ea]
      intro _
      refine ⟨fun _ => ⟨fun q => ⟨hf, hk, by decide, by decide, by decide, fun n hn2 => ⟨(k + 1, k + 1, [List.drop f (List.take k s)], some n), ?_⟩⟩, fun q => ⟨(k + 1, f, [], none), ?_⟩⟩, fun q => absurd hlt q⟩
      · simp only [oheap_some, oval_some, oside_some]
        exact ⟨⟨rfl, IntWalk.i64_in _ (by omega), IntWalk.i64_in _ (by omega)⟩, Heap.le_refl _, ⟨⟨Nat.le_refl _, hlt⟩, hn2, hy q, by simp⟩, by omega⟩
      · simp only [oheap_none, oval_none, oside_none]
        exact ⟨⟨trivial, trivial, IntWalk.i64_in _ (by omega)⟩, Heap.le_refl _, ⟨⟨by omega, hlt⟩, trivial, he, notin_next hf ea (hd q) hn⟩, by omega⟩
    | some n =>
      rw [oside_some] at ho
      simp (maxSteps := 1000000) -dsimp -implicitDefEqProofs only [go_sem, ↓reduceIte, keep15, ib15, mk15, Tryd.f15, oval_some, oheap_some, ea]
      intro _
      refine ⟨fun _ => ⟨fun q => ⟨hf, hk, by decide, by decide, by decide, Nat.le_refl _, by omega, by omega, fun b hb => ⟨(k + 1, k + 1, out ++ [List.drop f (List.take k s)], some b), ?_⟩⟩, fun q => ⟨(k + 1, f, out, some n), ?_⟩⟩, fun q => absurd hlt q⟩
      · simp only [oheap_some, oval_some, oside_some]
        refine ⟨⟨by rw [List.length_append]; rfl, IntWalk.i64_in _ (by omega), IntWalk.i64_in _ (by omega)⟩, ?_, ⟨⟨Nat.le_refl _, hlt⟩, hb.2, hy q, by simp⟩, by omega⟩
        rw [grow_row]; exact le_app ho
      · simp only [oheap_some, oval_some, oside_some]
        exact ⟨⟨trivial, trivial, IntWalk.i64_in _ (by omega)⟩, Heap.le_refl _, ⟨⟨by omega, hlt⟩, ho, he, notin_next hf ea (hd q) hn⟩, by omega⟩
  · have hk' : k = s.length := by omega
    subst hk'
    have hy : spB c s = out ++ [List.drop f (List.take s.length s)] := by
      rw [he, List.take_length]
      rw [← List.length_drop, List.take_length] at hn
      rw [spB_one _ hn]
    cases o with
    | none =>
      rw [oside_none] at ho
      subst ho
      simp (maxSteps := 1000000) -dsimp -implicitDefEqProofs only [go_sem, ↓reduceIte, keep15, ib15, mk15, Tryd.f15, Nat.lt_irrefl, oval_none, oheap_none]
      intro _
      refine ⟨hf, Nat.le_refl _, by decide, by decide, by decide, fun n hn2 => ?_⟩
      rw [hy]
      exact own_row (l := [List.drop f (List.take s.length s)]) hn2
    | some n =>
      rw [oside_some] at ho
      simp (maxSteps := 1000000) -dsimp -implicitDefEqProofs only [go_sem, ↓reduceIte, keep15, ib15, mk15, Tryd.f15, Nat.lt_irrefl, oval_some, oheap_some]
      intro _
      refine ⟨hf, Nat.le_refl _, by decide, by decide, by decide, Nat.le_refl _, by omega, by omega, fun b hb => ?_⟩
      rw [hy, grow_row]
      exact own_rowW (fun x => x) hb.2 (le_app ho) (by simp)
theorem l01Split (s : List UInt8) (c : UInt8) (hs : s.length ≤ 1048600) : Fn0 Tryd.prog 15 [.str s, .int .u8 c.toNat] (sls 1 (fun s => [.str s]) (spB c s)) := QS.fn0 (l01SplitN s c hs) fun y hy => OS.dat (c := fun n => [.str n]) (fun _ _ q => oP_dat q) hy
open Go.Proofs
set_option linter.unusedVariables false
set_option linter.unusedSimpArgs false
theorem decimalI (n : Int) (h0 : -9223372036854775808 ≤ n) (h1 : n ≤ 9223372036854775807) : Fn0 Tryd.prog 65 [I n] (.str (Go.Lib.itoa n)) := by
  refine fn0F 5 keep65 ib65 mk65 mix Tryd.func65 rfl (by kernel_rfl) (by simp) fun h => ?_
  simp (maxSteps := 1000000) -dsimp -implicitDefEqProofs only [go_sem, ↓reduceIte, keep65, ib65, mk65, Tryd.f65]
  first | refine HFnF.mk (formatInt n h0 h1) ?_ | refine CallSF.mk (formatInt n h0 h1) ?_ | refine HFnF.mkAt (formatInt n h0 h1) ?_ | refine CallSF.mk (FnAt.fn0 (formatInt n h0 h1)) ?_
  simp (maxSteps := 1000000) -dsimp -implicitDefEqProofs only [go_sem, ↓reduceIte, keep65, ib65, mk65, Tryd.f65]
theorem parseI_range {s : List UInt8} {v : Int} (h : Go.Lib.parseIntB 64 s = .ok v) : -9223372036854775808 ≤ v ∧ v ≤ 9223372036854775807 := by
  unfold Go.Lib.parseIntB at h
  split at h
  · cases h
  · simp only at h
    split at h
    · cases h
    · cases h
    · rename_i u hu
      split at h
      · cases h
      · split at h
        · cases h
        · rename_i h1 h2
          have := Go.Lib.NumEnd.ok.inj h
          subst this
          simp only [Nat.reducePow, Nat.reduceSub] at h1 h2
          split
          · have : u ≤ 9223372036854775808 := by
              rename_i q
              exact Nat.le_of_not_lt fun z => h2 ⟨q, z⟩
            omega
          · have : u < 9223372036854775808 := by
              rename_i q
              exact Nat.lt_of_not_le fun z => h1 ⟨q, z⟩
            omega
theorem rdOK_parse {hi : Int} (hhi : hi ≤ 9223372036854775807) {s : List UInt8} (h : rdOK hi s) : Go.Lib.parseIntB 64 s = .ok (rdN s) := by
  have h1 := h.2.2
  have := parseI_itoa h.1 (by have := h.2.1; omega)
  rw [← h1] at this
  exact this
theorem ifc_err : isIfc Tryd.prog 95 = true := by kernel_rfl
def keep47 : List Nat := [0, 1, 2, 6, 7, 8, 9]
def ib47 : List Nat := []
def mk47 : Marks := fun _ => ([], .nil, [])
set_option maxRecDepth 100000 in
theorem readDecimal (s : List UInt8) (hi : Int) (hs : s.length ≤ 1048600) (hhi : hi ≤ 1000000001) : Fn0 Tryd.prog 47 [.str s, I 0, I hi] (.tup [I (rdN s), .bool (decide (rdOK hi s))]) := by
  have hp := parseInt s (by omega)
  have hr := rdOK_parse (hi := hi) (s := s) (by omega)
  cases e : Go.Lib.parseIntB 64 s with
  | ok v =>
    have hv := parseI_range e
    have hn : rdN s = v := by rw [rdN, e]
    have he : errV s = .nilif := by rw [errV, e]
    have hl := itoa_len64 hv.1 hv.2
    rw [he, hn] at hp
    rw [hn]
    refine fn0F 30 keep47 ib47 mk47 mix Tryd.func47 rfl (by kernel_rfl) (by simp) fun h => ?_
    simp (maxSteps := 1000000) -dsimp -implicitDefEqProofs only [go_sem, ↓reduceIte, keep47, ib47, mk47, Tryd.f47]
    first | refine HFnF.mk (hp) ?_ | refine CallSF.mk (hp) ?_ | refine HFnF.mkAt (hp) ?_ | refine CallSF.mk (FnAt.fn0 (hp)) ?_
    simp (maxSteps := 1000000) -dsimp -implicitDefEqProofs only [go_sem, ↓reduceIte, keep47, ib47, mk47, Tryd.f47]
    simp (maxSteps := 1000000) -dsimp -implicitDefEqProofs only [go_sem, ↓reduceIte, keep47, ib47, mk47, Tryd.f47, ifc_err]
    first | refine HFnF.mk (decimalI v hv.1 hv.2) ?_ | refine CallSF.mk (decimalI v hv.1 hv.2) ?_ | refine HFnF.mkAt (decimalI v hv.1 hv.2) ?_ | refine CallSF.mk (FnAt.fn0 (decimalI v hv.1 hv.2)) ?_
    simp (maxSteps := 1000000) -dsimp -implicitDefEqProofs only [go_sem, ↓reduceIte, keep47, ib47, mk47, Tryd.f47]
    have hq : rdOK hi s ↔ (Go.Lib.itoa v = s ∧ (0 ≤ v ∧ v ≤ hi)) := by rw [rdOK, hn]; exact ⟨fun q => ⟨q.2.2.symm, q.1, q.2.1⟩, fun q => ⟨q.2.1, q.2.2, q.1.symm⟩⟩
    refine ⟨fun q => ?_, fun q => ?_⟩
    · first | refine HFnF.mk (within v 0 hi) ?_ | refine CallSF.mk (within v 0 hi) ?_ | refine HFnF.mkAt (within v 0 hi) ?_ | refine CallSF.mk (FnAt.fn0 (within v 0 hi)) ?_
      simp (maxSteps := 1000000) -dsimp -implicitDefEqProofs only [go_sem, ↓reduceIte, keep47, ib47, mk47, Tryd.f47]
      exact congrArg (fun b => HVal.tup [I v, .bool b]) (decide_eq_decide.2 ⟨fun z => hq.2 ⟨q, z⟩, fun z => (hq.1 z).2⟩)
    · exact congrArg (fun b => HVal.tup [I v, .bool b]) (decide_eq_false fun z => q (hq.1 z).1).symm
  | range =>
    have hn : ¬ rdOK hi s := fun q => by rw [hr q] at e; cases e
    have he : errV s = .iface 119 .any := by rw [errV, e]
    rw [he] at hp
    rw [decide_eq_false hn]
    refine fn0F 30 keep47 ib47 mk47 mix Tryd.func47 rfl (by kernel_rfl) (by simp) fun h => ?_
    simp (maxSteps := 1000000) -dsimp -implicitDefEqProofs only [go_sem, ↓reduceIte, keep47, ib47, mk47, Tryd.f47]
    first | refine HFnF.mk (hp) ?_ | refine CallSF.mk (hp) ?_ | refine HFnF.mkAt (hp) ?_ | refine CallSF.mk (FnAt.fn0 (hp)) ?_
    simp (maxSteps := 1000000) -dsimp -implicitDefEqProofs only [go_sem, ↓reduceIte, keep47, ib47, mk47, Tryd.f47]
    simp (maxSteps := 1000000) -dsimp -implicitDefEqProofs only [go_sem, ↓reduceIte, keep47, ib47, mk47, Tryd.f47, ifc_err]
  | _ =>
    have hn : ¬ rdOK hi s := fun q => by rw [hr q] at e; cases e
    have he : errV s = .iface 119 .any := by rw [errV, e]
    rw [he] at hp
    rw [decide_eq_false hn]
    refine fn0F 30 keep47 ib47 mk47 mix Tryd.func47 rfl (by kernel_rfl) (by simp) fun h => ?_
    simp (maxSteps := 1000000) -dsimp -implicitDefEqProofs only [go_sem, ↓reduceIte, keep47, ib47, mk47, Tryd.f47]
    first | refine HFnF.mk (hp) ?_ | refine CallSF.mk (hp) ?_ | refine HFnF.mkAt (hp) ?_ | refine CallSF.mk (FnAt.fn0 (hp)) ?_
    simp (maxSteps := 1000000) -dsimp -implicitDefEqProofs only [go_sem, ↓reduceIte, keep47, ib47, mk47, Tryd.f47]
    simp (maxSteps := 1000000) -dsimp -implicitDefEqProofs only [go_sem, ↓reduceIte, keep47, ib47, mk47, Tryd.f47, ifc_err]
theorem readL_len {most : Nat} {hi : Int} {text : List UInt8} {l : List Int} (h : readL most hi text = some l) : l.length ≤ most := by
  rw [readL] at h
  split at h
  · rw [← Option.some.inj h]; simp
  · split at h
    · rw [toNums] at h
      split at h
      · rw [← Option.some.inj h, List.length_map]; assumption
      · cases h
    · cases h
def keep25 : List Nat := [0, 1, 2, 3, 4, 10, 11, 12, 14, 15, 16, 19, 23, 24, 25, 26, 43]
def ib25 : List Nat := [17, 46]
def mk25 : Marks := fun _ => ([], .nil, [])
set_option maxRecDepth 100000 in
theorem readListN (text : List UInt8) (most : Nat) (hi : Int) (hs : text.length ≤ 1048600) (hhi : hi ≤ 1000000001) (hm : most ≤ 1048600) : FnN Tryd.prog 25 [.str text, .str [32], I most, I 0, I hi] (QS (OS (oP I) 1 ((readL most hi text).getD [])) (fun y => .tup [y, .bool (readL most hi text).isSome])) := by
  have hsl := spB_len 32 text
  have hsp := splitC text 32 (by omega)
  refine fnNF 50 keep25 ib25 mk25 mix Tryd.func25 rfl (by kernel_rfl) (by simp) fun h => ?_
  simp (maxSteps := 1000000) -dsimp -implicitDefEqProofs only [go_sem, ↓reduceIte, keep25, ib25, mk25, Tryd.f25]
  repeat' (with_reducible first | intro _ | refine And.intro ?_ ?_)
  all_goals try (first | omega | decide)
  · have h1 : readL most hi text = some [] := by rw [readL, if_pos (by assumption)]
    rw [h1]
    exact own_empW (fun y => .tup [y, .bool true]) (wsub_tup [] [_]) (Sub.refl _) (Heap.le_refl _) rfl
  · rename_i hne
    first | refine HFnF.mk (hsp) ?_ | refine CallSF.mk (hsp) ?_ | refine HFnF.mkAt (hsp) ?_ | refine CallSF.mk (FnAt.fn0 (hsp)) ?_
    simp (maxSteps := 1000000) -dsimp -implicitDefEqProofs only [go_sem, ↓reduceIte, keep25, ib25, mk25, Tryd.f25]
    repeat' (with_reducible first | intro _ | refine And.intro ?_ ?_)
    refine loopF (keep := keep25) (ib := ib25) (mk := mk25) mix (by kernel_rfl) (fun x : Nat × Option Nat => [(2, I most), (3, I 0), (4, I hi), (12, oval 1 x.1 x.2), (23, sls 1 (fun s => [.str s]) (spB 32 text)), (24, I (spB 32 text).length), (25, I x.1)]) (fun x => oheap h (.row 1 (((((spB 32 text).take x.1).map rdN).map fun n => [I n]).map (List.map .v))) x.2) (fun x => (x.1 ≤ (spB 32 text).length ∧ x.1 ≤ most) ∧ oside h ((spB 32 text).take x.1) x.2 ∧ ∀ p ∈ (spB 32 text).take x.1, rdOK hi p) (fun x => (spB 32 text).length - x.1) (0, none) (by simp [SatL, tget, Heap.le_refl, oval, oheap, oside]) ?_
    rintro ⟨k, o⟩ ⟨⟨hk, hkm⟩, ho, hok⟩
    simp only at hk hkm ho hok ⊢
    rcases Nat.lt_or_ge k (spB 32 text).length with hlt | hge
    · have ea : (spB 32 text)[k]? = some (spB 32 text)[k] := List.getElem?_eq_getElem hlt
      have hpl := hsl.2 _ (List.getElem_mem hlt)
      have hrd := readDecimal (spB 32 text)[k] hi (by omega) hhi
      have hnone : ¬ (rdOK hi (spB 32 text)[k] ∧ ¬ k = most) → readL most hi text = none := fun q => by
        rw [readL, if_neg hne]
        split
        · rw [toNums, if_neg]
          intro z
          exact q ⟨z _ (List.getElem_mem hlt), by omega⟩
        · rfl
      have hok2 : rdOK hi (spB 32 text)[k] → ∀ p ∈ (spB 32 text).take (k + 1), rdOK hi p := fun q p hp => by
        rw [List.take_succ_eq_append_getElem hlt] at hp
        rcases List.mem_append.1 hp with hp | hp
        · exact hok p hp
        · rw [List.mem_singleton.1 hp]; exact q
      have hmap : ((spB 32 text).take (k + 1)).map rdN = ((spB 32 text).take k).map rdN ++ [rdN (spB 32 text)[k]] := by
        rw [List.take_succ_eq_append_getElem hlt, List.map_append]; rfl
      cases o with
      | none =>
        simp (maxSteps := 1000000) -dsimp -implicitDefEqProofs only [go_sem, ↓reduceIte, keep25, ib25, mk25, Tryd.f25, oval_none, oheap_none, ea]
        refine ⟨fun _ => ⟨hlt, ?_⟩, fun q => absurd hlt q⟩
        first | refine HFnF.mk (hrd) ?_ | refine CallSF.mk (hrd) ?_ | refine HFnF.mkAt (hrd) ?_ | refine CallSF.mk (FnAt.fn0 (hrd)) ?_
        simp (maxSteps := 1000000) -dsimp -implicitDefEqProofs only [go_sem, ↓reduceIte, keep25, ib25, mk25, Tryd.f25]
        rw [oside_none] at ho
        have hk0 : k = 0 := by
          have := congrArg List.length ho
          rw [List.length_take, List.length_nil] at this
          omega
        subst hk0
        refine ⟨fun hq => ⟨fun h0 => ?_, fun h0 => ⟨by decide, by decide, by decide, fun n hn => ⟨(0 + 1, some n), ?_⟩⟩⟩, fun hq => ?_⟩
        · rw [hnone fun z => z.2 (by omega)]
          exact own_empW (fun y => .tup [y, .bool false]) (wsub_tup [] [_]) (Sub.nil 1 true) (Heap.le_refl _) rfl
        · simp only [oheap_some, oval_some, oside_some]
          rw [hmap, ho]
          exact ⟨⟨trivial, rfl⟩, Heap.le_refl _, ⟨⟨by omega, by omega⟩, hn, hok2 hq⟩, by omega⟩
        · rw [hnone fun z => hq z.1]
          exact own_empW (fun y => .tup [y, .bool false]) (wsub_tup [] [_]) (Sub.nil 1 true) (Heap.le_refl _) rfl
      | some n =>
        simp (maxSteps := 1000000) -dsimp -implicitDefEqProofs only [go_sem, ↓reduceIte, keep25, ib25, mk25, Tryd.f25, oval_some, oheap_some, ea]
        refine ⟨fun _ => ⟨hlt, ?_⟩, fun q => absurd hlt q⟩
        first | refine HFnF.mk (hrd) ?_ | refine CallSF.mk (hrd) ?_ | refine HFnF.mkAt (hrd) ?_ | refine CallSF.mk (FnAt.fn0 (hrd)) ?_
        simp (maxSteps := 1000000) -dsimp -implicitDefEqProofs only [go_sem, ↓reduceIte, keep25, ib25, mk25, Tryd.f25]
        rw [oside_some] at ho
        have hle : h.le (upd h n (.row 1 (((((spB 32 text).take k).map rdN).map fun n => [I n]).map (List.map .v)))) := Heap.le_upd ho (Heap.le_refl _)
        refine ⟨fun hq _ => ⟨fun h0 => ?_, fun h0 => ⟨by decide, by decide, by decide, by rw [List.length_take]; omega, by omega, by omega, fun b hb => ⟨(k + 1, some b), ?_⟩⟩⟩, fun hq => ?_⟩
        · rw [hnone fun z => z.2 (by omega)]
          exact own_empW (fun y => .tup [y, .bool false]) (wsub_tup [] [_]) (Sub.nil 1 true) hle rfl
        · simp only [oheap_some, oval_some, oside_some, hmap]
          refine ⟨⟨trivial, IntWalk.i64_in _ (by omega)⟩, ?_, ⟨⟨by omega, by omega⟩, hb.2, hok2 hq⟩, by omega⟩
          have hg := grow_row I (((spB 32 text).take k).map rdN) (rdN (spB 32 text)[k])
          rw [List.length_map, List.length_take, Nat.min_eq_left hk] at hg
          rw [hg]; exact le_app ho
        · rw [hnone fun z => hq z.1]
          exact own_empW (fun y => .tup [y, .bool false]) (wsub_tup [] [_]) (Sub.nil 1 true) hle rfl
    · have hk' : k = (spB 32 text).length := by omega
      have hR : readL most hi text = some ((spB 32 text).map rdN) := by
        rw [readL, if_neg hne, if_pos (by omega), toNums, if_pos]
        intro p hp
        rw [hk', List.take_length] at hok
        exact hok p hp
      rw [hR]
      rw [hk'] at ho ⊢
      rw [List.take_length] at ho ⊢
      cases o with
      | none =>
        simp (maxSteps := 1000000) -dsimp -implicitDefEqProofs only [go_sem, ↓reduceIte, keep25, ib25, mk25, Tryd.f25, oval_none, oheap_none, Nat.lt_irrefl]
        exact own_empW (fun y => .tup [y, .bool true]) (wsub_tup [] [_]) (Sub.refl _) (Heap.le_refl _) (by rw [oside_none] at ho; rw [ho]; rfl)
      | some n =>
        simp (maxSteps := 1000000) -dsimp -implicitDefEqProofs only [go_sem, ↓reduceIte, keep25, ib25, mk25, Tryd.f25, oval_some, oheap_some, Nat.lt_irrefl]
        rw [oside_some] at ho
        exact own_rowW (fun y => .tup [y, .bool true]) ho (Heap.le_refl _) (by simp)
open Go.Proofs
set_option linter.unusedVariables false
set_option linter.unusedSimpArgs false
theorem decV_bound : ∀ (l : List UInt8), (∀ c ∈ l, 48 ≤ c.toNat ∧ c.toNat ≤ 57) → decV l < 10 ^ l.length := by
  intro l
  induction hn : l.length using Nat.strongRecOn generalizing l with
  | _ n ih =>
    intro h
    rcases List.eq_nil_or_concat l with e | ⟨l', c, e⟩
    · subst e; subst hn; decide
    · rw [List.concat_eq_append] at e
      subst e
      have hc := h c (by simp)
      have h2 := ih l'.length (by rw [← hn]; simp) l' rfl fun x hx => h x (by simp [hx])
      rw [decV_snoc, ← hn, List.length_append, List.length_singleton, Nat.pow_succ]
      omega
theorem rdI_no {s : List UInt8} (h : ¬ rdOK 999999999 s) : HVal.tup [I 0, .bool false] = .tup [I (if rdOK 999999999 s then rdN s else 0), .bool (decide (rdOK 999999999 s))] := by rw [if_neg h, decide_eq_false h]
theorem pow_le9 {k : Nat} (h : k ≤ 9) : 10 ^ k ≤ 1000000000 := by
  have := Nat.pow_le_pow_right (n := 10) (by decide) h
  omega
def keep42 : List Nat := [0, 2, 3, 4, 5, 23, 27, 39]
def ib42 : List Nat := []
def mk42 : Marks := fun _ => ([], .nil, [])
set_option maxRecDepth 100000 in
theorem specReadDecimal (s : List UInt8) (hs : s.length ≤ 1048600) : Fn0 Tryd.prog 42 [.str s] (.tup [I (if rdOK 999999999 s then rdN s else 0), .bool (decide (rdOK 999999999 s))]) := by
  have hiff := digs_rd s
  cases s with
  | nil =>
    have hn : ¬ rdOK 999999999 [] := fun q => (hiff.2 q).1.1 rfl
    have := rdI_no hn
    refine fn0F 49 keep42 ib42 mk42 mix Tryd.func42 rfl (by kernel_rfl) (by simp) fun h => ?_
    simp (maxSteps := 1000000) -dsimp -implicitDefEqProofs only [go_sem, ↓reduceIte, keep42, ib42, mk42, Tryd.f42]
    simpa using this
  | cons c r =>
    have len : (c :: r).length = r.length + 1 := rfl
    have h0 : (c :: r)[Int.toNat 0]? = some c := rfl
    have h00 : (c :: r)[0]? = some c := rfl
    generalize (c :: r) = s at *
    by_cases h9 : 9 < s.length
    · have hn : ¬ rdOK 999999999 s := fun q => by have := (hiff.2 q).2; omega
      have := rdI_no hn
      refine fn0F 49 keep42 ib42 mk42 mix Tryd.func42 rfl (by kernel_rfl) (by simp) fun h => ?_
      simp (maxSteps := 1000000) -dsimp -implicitDefEqProofs only [go_sem, ↓reduceIte, keep42, ib42, mk42, Tryd.f42]
      repeat' (with_reducible first | intro _ | refine And.intro ?_ ?_)
      all_goals first | omega | exact this
    by_cases hz : 1 < s.length ∧ c = 48
    · have hn : ¬ rdOK 999999999 s := fun q => (hiff.2 q).1.2.2 hz.1 (by rw [h00, hz.2])
      have := rdI_no hn
      have h1 := hz.1
      refine fn0F 49 keep42 ib42 mk42 mix Tryd.func42 rfl (by kernel_rfl) (by simp) fun h => ?_
      simp (maxSteps := 1000000) -dsimp -implicitDefEqProofs only [go_sem, ↓reduceIte, keep42, ib42, mk42, Tryd.f42, h0]
      repeat' (with_reducible first | intro _ | refine And.intro ?_ ?_)
      all_goals first | omega | exact this | (exfalso; have e48 : c.toNat = 48 := by rw [hz.2]; rfl
                                              omega)
    · refine fn0F 49 keep42 ib42 mk42 mix Tryd.func42 rfl (by kernel_rfl) (by simp) fun h => ?_
      simp (maxSteps := 1000000) -dsimp -implicitDefEqProofs only [go_sem, ↓reduceIte, keep42, ib42, mk42, Tryd.f42, h0]
      repeat' (with_reducible first | intro _ | refine And.intro ?_ ?_)
      all_goals try omega
      all_goals try (exfalso; exact hz ⟨by omega, UInt8.toNat.inj (by show c.toNat = 48; omega)⟩)
      all_goals
        refine loopF (keep := keep42) (ib := ib42) (mk := mk42) mix (by kernel_rfl) (fun k : Nat => [(0, .str s), (4, I (decV (s.take k))), (5, I k)]) (fun _ => h) (fun k => k ≤ s.length ∧ ∀ x ∈ s.take k, 48 ≤ x.toNat ∧ x.toNat ≤ 57) (fun k => s.length - k) 0 (by simp [SatL, tget, Heap.le_refl, decV]) ?_
      all_goals
        rintro k ⟨hk, hd⟩
        rcases Nat.lt_or_ge k s.length with hlt | hge
        · have ea : s[k]? = some s[k] := List.getElem?_eq_getElem hlt
          have hb := decV_bound _ hd
          rw [List.length_take, Nat.min_eq_left hk] at hb
          have hp := pow_le9 (k := k) (by omega)
          have hsn : decV (s.take (k + 1)) = 10 * decV (s.take k) + (s[k].toNat - 48) := by rw [List.take_succ_eq_append_getElem hlt, decV_snoc]
          have hno : ¬ (48 ≤ s[k].toNat ∧ s[k].toNat ≤ 57) → ¬ rdOK 999999999 s := fun q z => q ((hiff.2 z).1.2.1 _ (List.getElem_mem hlt))
          have hyes : 48 ≤ s[k].toNat ∧ s[k].toNat ≤ 57 → ∀ x ∈ s.take (k + 1), 48 ≤ x.toNat ∧ x.toNat ≤ 57 := fun q x hx => by
            rw [List.take_succ_eq_append_getElem hlt] at hx
            rcases List.mem_append.1 hx with hx | hx
            · exact hd x hx
            · rw [List.mem_singleton.1 hx]; exact q
          simp (maxSteps := 1000000) -dsimp -implicitDefEqProofs only [go_sem, ↓reduceIte, keep42, ib42, mk42, Tryd.f42, ea]
          repeat' (with_reducible first | intro _ | refine And.intro ?_ ?_)
          all_goals try omega
          all_goals try (exact rdI_no (hno (by omega)))
          refine ⟨k + 1, ⟨?_, IntWalk.i64_in _ (by omega)⟩, ⟨hlt, hyes (by omega)⟩, by omega⟩
          rw [IntWalk.u8_in _ (by omega), IntWalk.i64_in ((s[k].toNat : Int) - 48) (by omega), IntWalk.i64_in (10 * (decV (List.take k s) : Int)) (by omega), IntWalk.i64_in _ (by omega), hsn]
          omega
        · have hk' : k = s.length := by omega
          rw [hk', List.take_length] at hd
          have hok : rdOK 999999999 s := by
            refine hiff.1 ⟨⟨fun e => by rw [e] at len; simp at len, hd, fun h1 q => ?_⟩, by omega⟩
            rw [h00] at q
            exact hz ⟨h1, Option.some.inj q⟩
          rw [hk', List.take_length]
          simp (maxSteps := 1000000) -dsimp -implicitDefEqProofs only [go_sem, ↓reduceIte, keep42, ib42, mk42, Tryd.f42, Nat.lt_irrefl, Int.lt_irrefl]
          repeat' (with_reducible first | intro _ | refine And.intro ?_ ?_)
          rw [if_pos hok, decide_eq_true hok, decV_rd hok]
theorem tw_all {α : Type} (f : α → Bool) : ∀ l : List α, (∀ p ∈ l, f p = true) → l.takeWhile f = l
  | [], _ => rfl
  | a :: l, h => by rw [List.takeWhile_cons, if_pos (h a (by simp)), tw_all f l fun p hp => h p (by simp [hp])]
theorem tw_at {α : Type} (f : α → Bool) : ∀ (l : List α) (k : Nat) (x : α), l[k]? = some x → (∀ p ∈ l.take k, f p = true) → f x = false → l.takeWhile f = l.take k
  | [], k, x, h, _, _ => by simp at h
  | a :: l, 0, x, h, _, hx => by
    simp at h; subst h
    rw [List.takeWhile_cons, if_neg (by simp [hx])]; rfl
  | a :: l, k + 1, x, h, hp, hx => by
    rw [List.takeWhile_cons, if_pos (hp a (by simp)), List.take_succ_cons, tw_at f l k x (by simpa using h) (fun p q => hp p (by simp [q])) hx]
def goodL (ps : List (List UInt8)) : List Int := (ps.takeWhile fun p => decide (rdOK 999999999 p)).map rdN
theorem goodL_all {ps : List (List UInt8)} {l : List Int} (h : toNums 999999999 ps = some l) : goodL ps = l := by
  rw [toNums] at h
  split at h
  · rename_i hp
    rw [← Option.some.inj h, goodL]
    congr 1
    exact tw_all _ _ fun p hq => decide_eq_true (hp p hq)
  · cases h
def keep16 : List Nat := [0, 2, 3, 4, 5, 6, 7, 12, 28]
def ib16 : List Nat := [8, 32]
def mk16 : Marks := fun _ => ([], .nil, [])
set_option maxRecDepth 100000 in
theorem l08ReadNumbersN (ps : List (List UInt8)) (t : Bool) (hl : ps.length ≤ 1048600) (hs : ∀ p ∈ ps, p.length ≤ 1048600) : FnN Tryd.prog 16 [.sl 1 (ps.map fun s => [.str s]) t] (QS (OS (oP I) 1 (goodL ps)) (fun y => .tup [y, .bool (toNums 999999999 ps).isSome])) := by
  refine fnNF 35 keep16 ib16 mk16 mix Tryd.func16 rfl (by kernel_rfl) (by simp) fun h => ?_
  simp (maxSteps := 1000000) -dsimp -implicitDefEqProofs only [go_sem, ↓reduceIte, keep16, ib16, mk16, Tryd.f16]
  repeat' (with_reducible first | intro _ | refine And.intro ?_ ?_)
  all_goals try (first | omega | decide)
  refine loopF (keep := keep16) (ib := ib16) (mk := mk16) mix (by kernel_rfl) (fun x : Nat × Option Nat => [(0, .sl 1 (ps.map fun s => [.str s]) t), (4, oval 1 x.1 x.2), (5, I x.1)]) (fun x => oheap h (.row 1 ((((ps.take x.1).map rdN).map fun n => [I n]).map (List.map .v))) x.2) (fun x => x.1 ≤ ps.length ∧ oside h (ps.take x.1) x.2 ∧ ∀ p ∈ ps.take x.1, rdOK 999999999 p) (fun x => ps.length - x.1) (0, none) (by simp [SatL, tget, Heap.le_refl, oval, oheap, oside]) ?_
  rintro ⟨k, o⟩ ⟨hk, ho, hok⟩
  simp only at hk ho hok ⊢
  rcases Nat.lt_or_ge k ps.length with hlt | hge
  · have ea : ps[k]? = some ps[k] := List.getElem?_eq_getElem hlt
    have hrd := specReadDecimal ps[k] (hs _ (List.getElem_mem hlt))
    by_cases hq : rdOK 999999999 ps[k]
    · rw [if_pos hq, decide_eq_true hq] at hrd
      have h0 := hq.1
      have hok2 : ∀ p ∈ ps.take (k + 1), rdOK 999999999 p := fun p hp => by
        rw [List.take_succ_eq_append_getElem hlt] at hp
        rcases List.mem_append.1 hp with hp | hp
        · exact hok p hp
        · rw [List.mem_singleton.1 hp]; exact hq
      have hmap : (ps.take (k + 1)).map rdN = (ps.take k).map rdN ++ [rdN ps[k]] := by
        rw [List.take_succ_eq_append_getElem hlt, List.map_append]; rfl
      cases o with
      | none =>
        rw [oside_none] at ho
        have hk0 : k = 0 := by
          have := congrArg List.length ho
          rw [List.length_take, List.length_nil] at this
          omega
        subst hk0
        simp (maxSteps := 1000000) -dsimp -implicitDefEqProofs only [go_sem, ↓reduceIte, keep16, ib16, mk16, Tryd.f16, oval_none, oheap_none, ea]
        refine fun _ => ⟨fun _ => ⟨hlt, ?_⟩, fun q => absurd hlt q⟩
        first | refine HFnF.mk (hrd) ?_ | refine CallSF.mk (hrd) ?_ | refine HFnF.mkAt (hrd) ?_ | refine CallSF.mk (FnAt.fn0 (hrd)) ?_
        simp (maxSteps := 1000000) -dsimp -implicitDefEqProofs only [go_sem, ↓reduceIte, keep16, ib16, mk16, Tryd.f16]
        refine ⟨fun q => absurd h0 (by omega), fun _ => ⟨by decide, by decide, by decide, fun n hn => ⟨(0 + 1, some n), ?_⟩⟩⟩
        simp only [oheap_some, oval_some, oside_some]
        rw [hmap, ho]
        exact ⟨⟨trivial, rfl⟩, Heap.le_refl _, ⟨by omega, hn, hok2⟩, by omega⟩
      | some n =>
        rw [oside_some] at ho
        simp (maxSteps := 1000000) -dsimp -implicitDefEqProofs only [go_sem, ↓reduceIte, keep16, ib16, mk16, Tryd.f16, oval_some, oheap_some, ea]
        refine fun _ => ⟨fun _ => ⟨hlt, ?_⟩, fun q => absurd hlt q⟩
        first | refine HFnF.mk (hrd) ?_ | refine CallSF.mk (hrd) ?_ | refine HFnF.mkAt (hrd) ?_ | refine CallSF.mk (FnAt.fn0 (hrd)) ?_
        simp (maxSteps := 1000000) -dsimp -implicitDefEqProofs only [go_sem, ↓reduceIte, keep16, ib16, mk16, Tryd.f16]
        refine ⟨fun q => absurd h0 (by omega), fun _ => ⟨by decide, by decide, by decide, by rw [List.length_take]; omega, by omega, by omega, fun b hb => ⟨(k + 1, some b), ?_⟩⟩⟩
        simp only [oheap_some, oval_some, oside_some, hmap]
        refine ⟨⟨trivial, IntWalk.i64_in _ (by omega)⟩, ?_, ⟨by omega, hb.2, hok2⟩, by omega⟩
        have hg := grow_row I ((ps.take k).map rdN) (rdN ps[k])
        rw [List.length_map, List.length_take, Nat.min_eq_left hk] at hg
        rw [hg]; exact le_app ho
    · rw [if_neg hq, decide_eq_false hq] at hrd
      have hnn : toNums 999999999 ps = none := by rw [toNums, if_neg fun z => hq (z _ (List.getElem_mem hlt))]
      have hgl : goodL ps = (ps.take k).map rdN := by rw [goodL, tw_at _ ps k ps[k] ea (fun p hp => decide_eq_true (hok p hp)) (decide_eq_false hq)]
      rw [hnn, hgl]
      cases o with
      | none =>
        rw [oside_none] at ho
        have hk0 : k = 0 := by
          have := congrArg List.length ho
          rw [List.length_take, List.length_nil] at this
          omega
        subst hk0
        simp (maxSteps := 1000000) -dsimp -implicitDefEqProofs only [go_sem, ↓reduceIte, keep16, ib16, mk16, Tryd.f16, oval_none, oheap_none, ea]
        refine fun _ => ⟨fun _ => ⟨hlt, ?_⟩, fun q => absurd hlt q⟩
        first | refine HFnF.mk (hrd) ?_ | refine CallSF.mk (hrd) ?_ | refine HFnF.mkAt (hrd) ?_ | refine CallSF.mk (FnAt.fn0 (hrd)) ?_
        simp (maxSteps := 1000000) -dsimp -implicitDefEqProofs only [go_sem, ↓reduceIte, keep16, ib16, mk16, Tryd.f16]
        exact own_empW (fun y => .tup [y, .bool false]) (wsub_tup [] [_]) (Sub.refl _) (Heap.le_refl _) (by first | rfl | (rw [ho]; rfl))
      | some n =>
        rw [oside_some] at ho
        simp (maxSteps := 1000000) -dsimp -implicitDefEqProofs only [go_sem, ↓reduceIte, keep16, ib16, mk16, Tryd.f16, oval_some, oheap_some, ea]
        refine fun _ => ⟨fun _ => ⟨hlt, ?_⟩, fun q => absurd hlt q⟩
        first | refine HFnF.mk (hrd) ?_ | refine CallSF.mk (hrd) ?_ | refine HFnF.mkAt (hrd) ?_ | refine CallSF.mk (FnAt.fn0 (hrd)) ?_
        simp (maxSteps := 1000000) -dsimp -implicitDefEqProofs only [go_sem, ↓reduceIte, keep16, ib16, mk16, Tryd.f16]
        exact own_rowW (fun y => .tup [y, .bool false]) ho (Heap.le_refl _) (by simp [Nat.min_eq_left hk])
  · have hk' : k = ps.length := by omega
    rw [hk', List.take_length] at hok ho
    have hnn : toNums 999999999 ps = some (ps.map rdN) := by rw [toNums, if_pos hok]
    rw [hnn, goodL_all hnn, hk', List.take_length]
    cases o with
    | none =>
      simp (maxSteps := 1000000) -dsimp -implicitDefEqProofs only [go_sem, ↓reduceIte, keep16, ib16, mk16, Tryd.f16, oval_none, oheap_none, Nat.lt_irrefl]
      intro _
      exact own_empW (fun y => .tup [y, .bool true]) (wsub_tup [] [_]) (Sub.refl _) (Heap.le_refl _) (by rw [oside_none] at ho; rw [ho]; rfl)
    | some n =>
      simp (maxSteps := 1000000) -dsimp -implicitDefEqProofs only [go_sem, ↓reduceIte, keep16, ib16, mk16, Tryd.f16, oval_some, oheap_some, Nat.lt_irrefl]
      rw [oside_some] at ho
      intro _
      exact own_rowW (fun y => .tup [y, .bool true]) ho (Heap.le_refl _) (by simp)
theorem l08ReadNumbers (ps : List (List UInt8)) (t : Bool) (hl : ps.length ≤ 1048600) (hs : ∀ p ∈ ps, p.length ≤ 1048600) : Fn0 Tryd.prog 16 [.sl 1 (ps.map fun s => [.str s]) t] (.tup [sls 1 (fun n => [I n]) (goodL ps), .bool (toNums 999999999 ps).isSome]) :=
  QS.fn0W (w := fun y => .tup [y, .bool (toNums 999999999 ps).isSome]) (l08ReadNumbersN ps t hl hs) (fun y hy => OS.dat (c := fun n => [I n]) (fun _ _ q => oP_dat q) hy) (wrap_tup [] [_])
open Go.Proofs
set_option linter.unusedVariables false
set_option linter.unusedSimpArgs false
def uses (k : Int) : Nat := if k = 1 then 2 else if k = 8 ∨ k = 9 then 0 else 1
theorem uses_le (k : Int) : uses k ≤ 2 := by unfold uses; split <;> (try split) <;> omega
theorem actNums_uses (a : DAct) : actNums a = [a.fA, a.fB].take (uses a.fKind) ++ a.fNumbers := by
  unfold actNums uses
  rcases (by omega : a.fKind = 1 ∨ a.fKind = 8 ∨ a.fKind = 9 ∨ (a.fKind ≠ 1 ∧ a.fKind ≠ 8 ∧ a.fKind ≠ 9)) with e | e | e | e
  all_goals simp [e]
def mkAct (k : Int) (n : List Int) : DAct := ⟨k, if 0 < uses k then n.getD 0 0 else 0, if 1 < uses k then n.getD 1 0 else 0, n.drop (uses k)⟩
theorem mkAct_of {a : DAct} (ha : a.ok) : mkAct a.fKind (actNums a) = a := by
  have h1 := ha.first
  have h2 := ha.second
  rw [actNums_uses, mkAct]
  rcases (by omega : a.fKind = 1 ∨ a.fKind = 8 ∨ a.fKind = 9 ∨ (a.fKind ≠ 1 ∧ a.fKind ≠ 8 ∧ a.fKind ≠ 9)) with e | e | e | e
  · have hu : uses a.fKind = 2 := by simp [uses, e]
    simp [hu]
  · have hu : uses a.fKind = 0 := by simp [uses, e]
    have := h1 (.inl e); have := h2 (by omega)
    cases a; simp_all
  · have hu : uses a.fKind = 0 := by simp [uses, e]
    have := h1 (.inr e); have := h2 (by omega)
    cases a; simp_all
  · have hu : uses a.fKind = 1 := by simp [uses, e]
    have := h2 (by omega)
    cases a; simp_all
theorem uses_len (a : DAct) : uses a.fKind ≤ (actNums a).length := by
  have := uses_le a.fKind
  rw [actNums_uses, List.length_append, List.length_take]
  simp; omega
theorem actText_of {a : DAct} (h : a.ok) : actText a = actWord a.fKind ++ wordsL (actNums a) := if_pos h
theorem actWord_no (k : Int) : (32 : UInt8) ∉ actWord k := by
  unfold actWord
  generalize (k - 1).toNat = n
  match n with
  | 0 | 1 | 2 | 3 | 4 | 5 | 6 | 7 | 8 | 9 => decide
  | n + 10 => simp
theorem actWord_inj {a b : Int} (ha : 1 ≤ a ∧ a ≤ 10) (hb : 1 ≤ b ∧ b ≤ 10) (h : actWord a = actWord b) : a = b := by
  rcases (by omega : a = 1 ∨ a = 2 ∨ a = 3 ∨ a = 4 ∨ a = 5 ∨ a = 6 ∨ a = 7 ∨ a = 8 ∨ a = 9 ∨ a = 10) with rfl | rfl | rfl | rfl | rfl | rfl | rfl | rfl | rfl | rfl
  all_goals rcases (by omega : b = 1 ∨ b = 2 ∨ b = 3 ∨ b = 4 ∨ b = 5 ∨ b = 6 ∨ b = 7 ∨ b = 8 ∨ b = 9 ∨ b = 10) with rfl | rfl | rfl | rfl | rfl | rfl | rfl | rfl | rfl | rfl
  all_goals first | rfl | exact absurd h (by decide)
theorem actNums_rg {a : DAct} (h : a.ok) {hi : Int} (hhi : 1000002 ≤ hi) : InRg hi (actNums a) := fun n hn => by
  have := actNums_num h n hn
  exact ⟨this.1, by have := this.2; omega⟩
theorem act_inj {a b : DAct} (ha : a.ok) (hb : b.ok) (h : actText a = actText b) : a = b := by
  rw [actText_of ha, actText_of hb] at h
  obtain ⟨h1, h2⟩ := words_inj (actWord_no _) (actWord_no _) (actNums_rg ha (by decide)) (actNums_rg hb (by decide)) h
  rw [← mkAct_of ha, ← mkAct_of hb, actWord_inj ha.kind hb.kind h1, h2]
noncomputable def readAct (t : List UInt8) : Option DAct := open Classical in if h : ∃ a : DAct, a.ok ∧ actText a = t then some (Classical.choose h) else none
theorem readAct_some {t : List UInt8} {a : DAct} (ha : a.ok) (ht : actText a = t) : readAct t = some a := by
  have hx : ∃ a : DAct, a.ok ∧ actText a = t := ⟨a, ha, ht⟩
  rw [readAct, dif_pos hx]
  have hs := Classical.choose_spec hx
  rw [act_inj hs.1 ha (hs.2.trans ht.symm)]
theorem readAct_ok {t : List UInt8} {a : DAct} (h : readAct t = some a) : a.ok ∧ actText a = t := by
  rw [readAct] at h
  split at h
  · rename_i hx
    rw [← Option.some.inj h]; exact Classical.choose_spec hx
  · cases h
theorem readAct_no {t : List UInt8} (h : ∀ a : DAct, a.ok → ¬ actText a = t) : readAct t = none := by
  cases e : readAct t with
  | none => rfl
  | some a => exact absurd (readAct_ok e).2 (h a (readAct_ok e).1)
def zAct : DAct := ⟨0, 0, 0, []⟩
noncomputable def readRes (t : List UInt8) : DAct × Int := match readAct t with | some a => (a, 0) | none => (zAct, 5)
theorem readRes_some {t : List UInt8} {a : DAct} (h : readAct t = some a) : readRes t = (a, 0) := by rw [readRes, h]
theorem readRes_none {t : List UInt8} (h : readAct t = none) : readRes t = (zAct, 5) := by rw [readRes, h]
/-- What the words of an act's text are. -/
theorem act_words {a : DAct} (ha : a.ok) : spB 32 (actText a) = actWord a.fKind :: (actNums a).map Go.Lib.itoa := by
  rw [actText_of ha]
  exact spB_words (actWord_no _) fun n hn => (actNums_num ha n hn).1
theorem act_nums {a : DAct} (ha : a.ok) : toNums 999999999 ((actNums a).map Go.Lib.itoa) = some (actNums a) := (toNums_some (by decide)).2 ⟨rfl, actNums_rg ha (by decide)⟩
open Go.Proofs
set_option linter.unusedVariables false
set_option linter.unusedSimpArgs false
theorem zAct_o : ZeroO zAct.o [.int .i64 0, .int .i64 0, .int .i64 0, .nilsl] := ⟨_, ⟨.nil 1, rfl, OS.nil⟩, rfl, by
  exact Sub.agg (.cons (.refl _) (.cons (.refl _) (.cons (.refl _) (.cons (Sub.nil 1 true) .nil))))⟩
theorem readRes_err {t : List UInt8} {h h' : Heap} (hn : readAct t = none) (hl : h.le h') : ∃ r1 g l, Shift (.tup [.agg [.int .i64 0, .int .i64 0, .int .i64 0, .nilsl], .int .i64 5]) h' r1 g ∧ QA (readRes t).1.o (fun y => .tup [y, I (readRes t).2]) r1 l ∧ New h l g := by
  rw [readRes_none hn]
  exact own_zero zAct_o (wsub_tup [] [_]) hl
def keep5 : List Nat := [0, 2, 3, 4, 5, 6, 7, 8, 10, 23, 42, 50, 56, 66]
def ib5 : List Nat := []
def mk5 : Marks := fun id => match id with | 7 => ([4, 8], (.op 0 (.op 1 (.op 2 (.op 3 (.op 4 (.op 5 (.op 6 (.op 7 (.op 9 (.op 8 (.op 10 (.op 11 .nil)))))))))))), []) | _ => ([], .nil, [])
set_option maxRecDepth 100000 in
set_option maxHeartbeats 1000000 in
theorem specReadAct (t : List UInt8) (ht : t.length ≤ 1048576) : FnN Tryd.prog 5 [.str t] (QA (readRes t).1.o (fun y => .tup [y, I (readRes t).2])) := by
  have hsp := l01Split t 32 (by omega)
  have hsl := spB_len 32 t
  cases hw : spB 32 t with
  | nil => exact absurd hw (spB_ne 32 t)
  | cons w ps =>
    rw [hw] at hsl
    have hpl : ps.length ≤ 1048576 := by have := hsl.1; simp at this; omega
    have hrn := l08ReadNumbers ps false (by omega) (fun p hp => by have := hsl.2 p (by simp [hp]); omega)
    refine fnNF 69 keep5 ib5 mk5 mix Tryd.func5 rfl (by kernel_rfl) (by simp) fun h => ?_
    simp (maxSteps := 1000000) -dsimp -implicitDefEqProofs only [go_sem, ↓reduceIte, keep5, ib5, mk5, Tryd.f5]
    intro n2 z2
    try simp (maxSteps := 1000000) -dsimp -implicitDefEqProofs only [go_sem, ↓reduceIte, keep5, ib5, mk5, Tryd.f5]
    first | refine HFnF.mk (hsp) ?_ | refine CallSF.mk (hsp) ?_ | refine HFnF.mkAt (hsp) ?_ | refine CallSF.mk (FnAt.fn0 (hsp)) ?_
    simp (maxSteps := 1000000) -dsimp -implicitDefEqProofs only [go_sem, ↓reduceIte, keep5, ib5, mk5, Tryd.f5]
    rw [hw]
    simp (maxSteps := 1000000) -dsimp -implicitDefEqProofs only [go_sem, ↓reduceIte, keep5, ib5, mk5, Tryd.f5]
    repeat' (with_reducible first | intro _ | refine And.intro ?_ ?_)
    all_goals try (first | omega | decide)
    have hdr : List.drop (Int.toNat 1) ([HVal.str w] :: List.take ps.length (List.map (fun s => [HVal.str s]) ps)) = ps.map fun s => [HVal.str s] := by rw [List.take_of_length_le (by simp)]; rfl
    rw [hdr]
    first | refine HFnF.mk (hrn) ?_ | refine CallSF.mk (hrn) ?_ | refine HFnF.mkAt (hrn) ?_ | refine CallSF.mk (FnAt.fn0 (hrn)) ?_
    simp (maxSteps := 1000000) -dsimp -implicitDefEqProofs only [go_sem, ↓reduceIte, keep5, ib5, mk5, Tryd.f5]
    refine loopF (keep := keep5) (ib := ib5) (mk := mk5) mix (by kernel_rfl) (fun k : Nat => [(0, .str t), (2, .op n2 4 0 0), (4, sls 1 (fun s => [.str s]) (w :: ps)), (5, sls 1 (fun n => [I n]) (goodL ps)), (6, .bool (toNums 999999999 ps).isSome), (7, I k)]) (fun _ => upd h n2 (.row 4 [[.v (I 0), .v (I 0), .v (I 0), .v .nilsl]])) (fun k => (1 ≤ k ∧ k ≤ 11) ∧ ∀ a, readAct t = some a → (k : Int) ≤ a.fKind) (fun k => 11 - k) 1 ⟨by simp [SatL, tget], Heap.le_refl _, ⟨by omega, by omega⟩, fun a ha => (readAct_ok ha).1.kind.1⟩ ?_
    rintro k ⟨⟨hk1, hk2⟩, hmin⟩
    rcases Nat.lt_or_ge k 11 with hlt | hge
    · cases hN : toNums 999999999 ps with
      | none =>
        have hno : readAct t = none := readAct_no fun a ha e => by
          have := act_words ha
          rw [e, hw] at this
          injection this with h1 h2
          rw [h2, act_nums ha] at hN; cases hN
        simp (maxSteps := 1000000) -dsimp -implicitDefEqProofs only [go_sem, ↓reduceIte, keep5, ib5, mk5, Tryd.f5, Option.isSome_none]
        repeat' (with_reducible first | intro _ | refine And.intro ?_ ?_)
        all_goals try (first | omega | decide)
        all_goals exact readRes_err hno (by repeat' (first | exact Heap.le_refl _ | refine Heap.le_both ?_ | refine Heap.le_upd (by first | assumption | (rw [upd_ne _ _ _ _ (by assumption)]; assumption) | (rw [upd_ne _ _ _ _ (by assumption), upd_ne _ _ _ _ (by assumption)]; assumption) | (rw [upd_ne _ _ _ _ (by assumption), upd_ne _ _ _ _ (by assumption), upd_ne _ _ _ _ (by assumption)]; assumption)) ?_))
      | some n =>
        have hg := goodL_all hN
        rw [hg]
        have hnn := (toNums_some (by decide)).1 hN
        have hnl : n.length = ps.length := by rw [hnn.1]; simp
        simp (maxSteps := 1000000) -dsimp -implicitDefEqProofs only [go_sem, ↓reduceIte, keep5, ib5, mk5, Tryd.f5, Option.isSome_some]
        repeat' (with_reducible first | intro _ | refine And.intro ?_ ?_)
        all_goals try (first | omega | decide)
        have hget : ∀ L : List (List HVal), (([HVal.str w] :: L)[Int.toNat 0]?) = some [.str w] := fun _ => rfl
        have hu : (if (k : Int) = 1 then 2 else if (k : Int) = 8 then 0 else if (k : Int) = 9 then 0 else 1 : Int) = (uses k : Nat) := by
          unfold uses
          rcases (by omega : (k : Int) = 1 ∨ (k : Int) = 8 ∨ (k : Int) = 9 ∨ ((k : Int) ≠ 1 ∧ (k : Int) ≠ 8 ∧ (k : Int) ≠ 9)) with e | e | e | e
          all_goals simp [e]
        have hul := uses_le k
        have hus := l08Uses k
        rw [hu] at hus
        first | refine HFnF.mk (hus) ?_ | refine CallSF.mk (hus) ?_ | refine HFnF.mkAt (hus) ?_ | refine CallSF.mk (FnAt.fn0 (hus)) ?_
        simp (maxSteps := 1000000) -dsimp -implicitDefEqProofs only [go_sem, ↓reduceIte, keep5, ib5, mk5, Tryd.f5, hget]
        refine ⟨by omega, ?_⟩
        have hfact : ∀ a, readAct t = some a → w = actWord a.fKind ∧ n = actNums a := fun a ha => by
          obtain ⟨h1, h2⟩ := readAct_ok ha
          have h3 := act_words h1
          rw [h2, hw] at h3
          injection h3 with h3 h4
          rw [h4, act_nums h1] at hN
          exact ⟨h3, (Option.some.inj hN).symm⟩
        have hnext : (∀ a, readAct t = some a → ¬ a.fKind = k) → ∃ x' : Nat, (true = (some n).isSome ∧ IntKind.i64.wrap ((k : Int) + 1) = (x' : Int)) ∧ ((1 ≤ x' ∧ x' ≤ 11) ∧ ∀ (a : DAct), readAct t = some a → (x' : Int) ≤ a.fKind) ∧ 11 - x' < 11 - k := fun hq => ⟨k + 1, ⟨rfl, IntWalk.i64_in _ (by omega)⟩, ⟨⟨by omega, by omega⟩, fun a ha => by have := hmin a ha; have := hq a ha; omega⟩, by omega⟩
        have hnext2 : ∀ (g : Heap), (upd h n2 (.row 4 [[.v (I 0), .v (I 0), .v (I 0), .v .nilsl]])).le g → (∀ a, readAct t = some a → ¬ a.fKind = k) → ∃ x' : Nat, (true = (some n).isSome ∧ IntKind.i64.wrap ((k : Int) + 1) = (x' : Int)) ∧ (upd h n2 (.row 4 [[.v (I 0), .v (I 0), .v (I 0), .v .nilsl]])).le g ∧ ((1 ≤ x' ∧ x' ≤ 11) ∧ ∀ (a : DAct), readAct t = some a → (x' : Int) ≤ a.fKind) ∧ 11 - x' < 11 - k := fun g hg hq => by
          obtain ⟨x', h1, h2⟩ := hnext hq
          exact ⟨x', h1, hg, h2⟩
        first | refine HFnF.mk (l08Word k (by omega) (by omega)) ?_ | refine CallSF.mk (l08Word k (by omega) (by omega)) ?_ | refine HFnF.mkAt (l08Word k (by omega) (by omega)) ?_ | refine CallSF.mk (FnAt.fn0 (l08Word k (by omega) (by omega))) ?_
        simp (maxSteps := 1000000) -dsimp -implicitDefEqProofs only [go_sem, ↓reduceIte, keep5, ib5, mk5, Tryd.f5, hget]
        refine ⟨fun hwk _ => ⟨fun hlu => hnext fun a ha hak => ?_, fun hlu => ⟨by omega, Nat.le_refl _, ?_⟩⟩, fun hwk => hnext fun a ha hak => hwk (hak ▸ (hfact a ha).1)⟩
        · have := uses_len a
          rw [← (hfact a ha).2, hak] at this; omega
        have hdr2 : List.drop (uses k) (List.take n.length (List.map (fun n => [I n]) n)) = (n.drop (uses k)).map fun n => [I n] := by rw [List.take_of_length_le (by simp), List.map_drop]
        rw [hdr2]
        refine HFnF.wn1 (l00Own (n.drop (uses k)) (by simp; omega)) z2 ?_
        rintro r_ l_ g ⟨y, oy, rfl, rfl⟩ wn z2g
        have oa : (mkAct k n).o [.v (I k), .v (I (mkAct k n).fA), .v (I (mkAct k n).fB), y] := ⟨y, rfl, oy⟩
        have has : (mkAct k n).s ≤ 1048576 := by
          have := (mkAct k n).s_eq
          simp only [mkAct, List.length_drop, szs_eq] at this ⊢
          omega
        rcases (by omega : uses k = 0 ∨ uses k = 1 ∨ uses k = 2) with e | e | e
        · have eA : (mkAct k n).fA = if 0 < 0 then n.getD 0 0 else 0 := by simp [mkAct, e]
          have eB : (mkAct k n).fB = if 1 < 0 then n.getD 1 0 else 0 := by simp [mkAct, e]
          simp only [Nat.lt_irrefl, ↓reduceIte, Nat.zero_lt_one, Nat.not_lt_zero, Nat.one_lt_two, Nat.zero_lt_two, (by decide : ¬ 1 < 0)] at eA eB
          have c0 : (((0 : Nat) : Int) > 0) = _ := eq_false (by omega)
          have c1 : (((0 : Nat) : Int) > 1) = _ := eq_false (by omega)
          rw [e]
          simp (maxSteps := 1000000) -dsimp -implicitDefEqProofs only [go_sem, ↓reduceIte, keep5, ib5, mk5, Tryd.f5, oy.flat, oy.one, c0, c1, false_imp_iff, true_and, not_false_iff, true_imp_iff, not_true_eq_false, hget]
          intro m q_m
          have d_m_n2 : ¬ m = n2 := by first | exact q_m.1 | exact q_m | exact q_m.2.1 | exact q_m.2 | exact q_m.2.2.1 | exact q_m.2.2 | exact q_m.2.2.2.1 | exact q_m.2.2.2 | exact q_m.2.2.2.2.1 | exact q_m.2.2.2.2 | exact q_m.2.2.2.2.2.1 | exact q_m.2.2.2.2.2 | exact q_m.2.2.2.2.2.2.1 | exact q_m.2.2.2.2.2.2 | exact q_m.2.2.2.2.2.2.2.1 | exact q_m.2.2.2.2.2.2.2 | exact q_m.2.2.2.2.2.2.2.2.1 | exact q_m.2.2.2.2.2.2.2.2 | exact q_m.2.2.2.2.2.2.2.2.2.1 | exact q_m.2.2.2.2.2.2.2.2.2 | exact q_m.2.2.2.2.2.2.2.2.2.2.1 | exact q_m.2.2.2.2.2.2.2.2.2.2 | exact q_m.2.2.2.2.2.2.2.2.2.2.2.1 | exact q_m.2.2.2.2.2.2.2.2.2.2.2 | exact q_m.2.2.2.2.2.2.2.2.2.2.2.2.1 | exact q_m.2.2.2.2.2.2.2.2.2.2.2.2 | exact q_m.2.2.2.2.2.2.2.2.2.2.2.2.2.1 | exact q_m.2.2.2.2.2.2.2.2.2.2.2.2.2
          have e_m_n2 : (m = n2) = False := eq_false d_m_n2
          have e_n2_m : (n2 = m) = False := eq_false (Ne.symm d_m_n2)
          have d_n2_m : ¬ n2 = m := Ne.symm d_m_n2
          have z_m : g m = none := by first | exact q_m.1 | exact q_m | exact q_m.2.1 | exact q_m.2 | exact q_m.2.2.1 | exact q_m.2.2 | exact q_m.2.2.2.1 | exact q_m.2.2.2 | exact q_m.2.2.2.2.1 | exact q_m.2.2.2.2 | exact q_m.2.2.2.2.2.1 | exact q_m.2.2.2.2.2 | exact q_m.2.2.2.2.2.2.1 | exact q_m.2.2.2.2.2.2 | exact q_m.2.2.2.2.2.2.2.1 | exact q_m.2.2.2.2.2.2.2 | exact q_m.2.2.2.2.2.2.2.2.1 | exact q_m.2.2.2.2.2.2.2.2 | exact q_m.2.2.2.2.2.2.2.2.2.1 | exact q_m.2.2.2.2.2.2.2.2.2 | exact q_m.2.2.2.2.2.2.2.2.2.2.1 | exact q_m.2.2.2.2.2.2.2.2.2.2 | exact q_m.2.2.2.2.2.2.2.2.2.2.2.1 | exact q_m.2.2.2.2.2.2.2.2.2.2.2 | exact q_m.2.2.2.2.2.2.2.2.2.2.2.2.1 | exact q_m.2.2.2.2.2.2.2.2.2.2.2.2 | exact q_m.2.2.2.2.2.2.2.2.2.2.2.2.2.1 | exact q_m.2.2.2.2.2.2.2.2.2.2.2.2.2
          repeat' (with_reducible first | intro _ | refine And.intro ?_ ?_)
          all_goals try omega
          have hrow : ([[Cell.v (HVal.int IntKind.i64 k), Cell.v (HVal.int IntKind.i64 (mkAct k n).fA), Cell.v (HVal.int IntKind.i64 (mkAct k n).fB), Cell.v y.val]] : List (List Cell)) = OV.cells [[.v (I k), .v (I (mkAct k n).fA), .v (I (mkAct k n).fB), y]] := rfl
          rw [eA, eB] at hrow
          simp only [upd_upd]
          rw [hrow]
          have hzm : upd g n2 (.row 4 [[.v (I 0), .v (I 0), .v (I 0), .v .nilsl]]) m = none := by rw [upd_ne _ _ _ _ d_m_n2]; exact z_m
          have hvw := View.box (sz := 4) (DAct.o_dat oa) hzm (by simpa only [OV.row_cons, OV.v_rows, OV.row_nil, List.nil_append, List.append_nil] using (wn.over (o := .row 4 [[.v (I 0), .v (I 0), .v (I 0), .v .nilsl]]) z2g).owns)
          rw [eA, eB] at hvw oa
          refine HFnF.lend0 (l08Act (mkAct k n) has) (ViewL.cons hvw ViewL.nil) rfl ?_
          simp (maxSteps := 1000000) -dsimp -implicitDefEqProofs only [go_sem, ↓reduceIte, keep5, ib5, mk5, Tryd.f5]
          refine ⟨fun hok => ?_, fun hok => ?_⟩
          · refine HFnF.lend0 (l08ActText (mkAct k n) hok) (ViewL.cons hvw ViewL.nil) rfl ?_
            simp (maxSteps := 1000000) -dsimp -implicitDefEqProofs only [go_sem, ↓reduceIte, keep5, ib5, mk5, Tryd.f5, OV.map_val, OV.map_val_nil, OV.val_v, upd_upd, upd_ne, cells_box, cellv_cons, cellv_nil, oy.flat, oy.one, e_m_n2, e_n2_m]
            refine ⟨fun htx => ?_, fun htx => hnext2 _ ?_ fun a ha hak => htx ?_⟩
            · rw [readRes_some (readAct_some hok ((actText_of hok).trans htx))]
              exact own_end (w := fun y => .tup [y, I 0]) oa (by simpa only [OV.row_cons, OV.v_rows, OV.row_nil, List.nil_append, List.append_nil] using wn) (by repeat' (first | exact Heap.le_refl _ | refine Heap.le_both ?_ | refine Heap.le_upd (by first | assumption | (rw [upd_ne _ _ _ _ (by assumption)]; assumption) | (rw [upd_ne _ _ _ _ (by assumption), upd_ne _ _ _ _ (by assumption)]; assumption) | (rw [upd_ne _ _ _ _ (by assumption), upd_ne _ _ _ _ (by assumption), upd_ne _ _ _ _ (by assumption)]; assumption)) ?_))
            · exact Heap.le_trans (wn.over (o := .row 4 [[.v (I 0), .v (I 0), .v (I 0), .v .nilsl]]) z2g).le (Heap.le_upd hzm (Heap.le_refl _))
            · obtain ⟨q1, q2⟩ := readAct_ok ha
              rw [show mkAct k n = a by rw [← hak, (hfact a ha).2]; exact mkAct_of q1, ← actText_of q1, q2]
          · refine hnext2 _ ?_ fun a ha hak => hok ?_
            · exact Heap.le_trans (wn.over (o := .row 4 [[.v (I 0), .v (I 0), .v (I 0), .v .nilsl]]) z2g).le (Heap.le_upd hzm (Heap.le_refl _))
            · obtain ⟨q1, q2⟩ := readAct_ok ha
              rw [show mkAct k n = a by rw [← hak, (hfact a ha).2]; exact mkAct_of q1]; exact q1
        · have e0 : n[Int.toNat 0]? = some (n.getD 0 0) := by
            show n[0]? = _
            rw [List.getD_eq_getElem?_getD, List.getElem?_eq_getElem (by omega)]; rfl
          have eA : (mkAct k n).fA = if 0 < 1 then n.getD 0 0 else 0 := by simp [mkAct, e]
          have eB : (mkAct k n).fB = if 1 < 1 then n.getD 1 0 else 0 := by simp [mkAct, e]
          simp only [Nat.lt_irrefl, ↓reduceIte, Nat.zero_lt_one, Nat.not_lt_zero, Nat.one_lt_two, Nat.zero_lt_two, (by decide : ¬ 1 < 0)] at eA eB
          have c0 : (((1 : Nat) : Int) > 0) = _ := eq_true (by omega)
          have c1 : (((1 : Nat) : Int) > 1) = _ := eq_false (by omega)
          rw [e]
          simp (maxSteps := 1000000) -dsimp -implicitDefEqProofs only [go_sem, ↓reduceIte, keep5, ib5, mk5, Tryd.f5, oy.flat, oy.one, c0, c1, false_imp_iff, true_and, not_false_iff, true_imp_iff, not_true_eq_false, e0]
          intro m q_m
          have d_m_n2 : ¬ m = n2 := by first | exact q_m.1 | exact q_m | exact q_m.2.1 | exact q_m.2 | exact q_m.2.2.1 | exact q_m.2.2 | exact q_m.2.2.2.1 | exact q_m.2.2.2 | exact q_m.2.2.2.2.1 | exact q_m.2.2.2.2 | exact q_m.2.2.2.2.2.1 | exact q_m.2.2.2.2.2 | exact q_m.2.2.2.2.2.2.1 | exact q_m.2.2.2.2.2.2 | exact q_m.2.2.2.2.2.2.2.1 | exact q_m.2.2.2.2.2.2.2 | exact q_m.2.2.2.2.2.2.2.2.1 | exact q_m.2.2.2.2.2.2.2.2 | exact q_m.2.2.2.2.2.2.2.2.2.1 | exact q_m.2.2.2.2.2.2.2.2.2 | exact q_m.2.2.2.2.2.2.2.2.2.2.1 | exact q_m.2.2.2.2.2.2.2.2.2.2 | exact q_m.2.2.2.2.2.2.2.2.2.2.2.1 | exact q_m.2.2.2.2.2.2.2.2.2.2.2 | exact q_m.2.2.2.2.2.2.2.2.2.2.2.2.1 | exact q_m.2.2.2.2.2.2.2.2.2.2.2.2 | exact q_m.2.2.2.2.2.2.2.2.2.2.2.2.2.1 | exact q_m.2.2.2.2.2.2.2.2.2.2.2.2.2
          have e_m_n2 : (m = n2) = False := eq_false d_m_n2
          have e_n2_m : (n2 = m) = False := eq_false (Ne.symm d_m_n2)
          have d_n2_m : ¬ n2 = m := Ne.symm d_m_n2
          have z_m : g m = none := by first | exact q_m.1 | exact q_m | exact q_m.2.1 | exact q_m.2 | exact q_m.2.2.1 | exact q_m.2.2 | exact q_m.2.2.2.1 | exact q_m.2.2.2 | exact q_m.2.2.2.2.1 | exact q_m.2.2.2.2 | exact q_m.2.2.2.2.2.1 | exact q_m.2.2.2.2.2 | exact q_m.2.2.2.2.2.2.1 | exact q_m.2.2.2.2.2.2 | exact q_m.2.2.2.2.2.2.2.1 | exact q_m.2.2.2.2.2.2.2 | exact q_m.2.2.2.2.2.2.2.2.1 | exact q_m.2.2.2.2.2.2.2.2 | exact q_m.2.2.2.2.2.2.2.2.2.1 | exact q_m.2.2.2.2.2.2.2.2.2 | exact q_m.2.2.2.2.2.2.2.2.2.2.1 | exact q_m.2.2.2.2.2.2.2.2.2.2 | exact q_m.2.2.2.2.2.2.2.2.2.2.2.1 | exact q_m.2.2.2.2.2.2.2.2.2.2.2 | exact q_m.2.2.2.2.2.2.2.2.2.2.2.2.1 | exact q_m.2.2.2.2.2.2.2.2.2.2.2.2 | exact q_m.2.2.2.2.2.2.2.2.2.2.2.2.2.1 | exact q_m.2.2.2.2.2.2.2.2.2.2.2.2.2
          repeat' (with_reducible first | intro _ | refine And.intro ?_ ?_)
          all_goals try omega
          have hrow : ([[Cell.v (HVal.int IntKind.i64 k), Cell.v (HVal.int IntKind.i64 (mkAct k n).fA), Cell.v (HVal.int IntKind.i64 (mkAct k n).fB), Cell.v y.val]] : List (List Cell)) = OV.cells [[.v (I k), .v (I (mkAct k n).fA), .v (I (mkAct k n).fB), y]] := rfl
          rw [eA, eB] at hrow
          simp only [upd_upd]
          rw [hrow]
          have hzm : upd g n2 (.row 4 [[.v (I 0), .v (I 0), .v (I 0), .v .nilsl]]) m = none := by rw [upd_ne _ _ _ _ d_m_n2]; exact z_m
          have hvw := View.box (sz := 4) (DAct.o_dat oa) hzm (by simpa only [OV.row_cons, OV.v_rows, OV.row_nil, List.nil_append, List.append_nil] using (wn.over (o := .row 4 [[.v (I 0), .v (I 0), .v (I 0), .v .nilsl]]) z2g).owns)
          rw [eA, eB] at hvw oa
          refine HFnF.lend0 (l08Act (mkAct k n) has) (ViewL.cons hvw ViewL.nil) rfl ?_
          simp (maxSteps := 1000000) -dsimp -implicitDefEqProofs only [go_sem, ↓reduceIte, keep5, ib5, mk5, Tryd.f5]
          refine ⟨fun hok => ?_, fun hok => ?_⟩
          · refine HFnF.lend0 (l08ActText (mkAct k n) hok) (ViewL.cons hvw ViewL.nil) rfl ?_
            simp (maxSteps := 1000000) -dsimp -implicitDefEqProofs only [go_sem, ↓reduceIte, keep5, ib5, mk5, Tryd.f5, OV.map_val, OV.map_val_nil, OV.val_v, upd_upd, upd_ne, cells_box, cellv_cons, cellv_nil, oy.flat, oy.one, e_m_n2, e_n2_m]
            refine ⟨fun htx => ?_, fun htx => hnext2 _ ?_ fun a ha hak => htx ?_⟩
            · rw [readRes_some (readAct_some hok ((actText_of hok).trans htx))]
              exact own_end (w := fun y => .tup [y, I 0]) oa (by simpa only [OV.row_cons, OV.v_rows, OV.row_nil, List.nil_append, List.append_nil] using wn) (by repeat' (first | exact Heap.le_refl _ | refine Heap.le_both ?_ | refine Heap.le_upd (by first | assumption | (rw [upd_ne _ _ _ _ (by assumption)]; assumption) | (rw [upd_ne _ _ _ _ (by assumption), upd_ne _ _ _ _ (by assumption)]; assumption) | (rw [upd_ne _ _ _ _ (by assumption), upd_ne _ _ _ _ (by assumption), upd_ne _ _ _ _ (by assumption)]; assumption)) ?_))
            · exact Heap.le_trans (wn.over (o := .row 4 [[.v (I 0), .v (I 0), .v (I 0), .v .nilsl]]) z2g).le (Heap.le_upd hzm (Heap.le_refl _))
            · obtain ⟨q1, q2⟩ := readAct_ok ha
              rw [show mkAct k n = a by rw [← hak, (hfact a ha).2]; exact mkAct_of q1, ← actText_of q1, q2]
          · refine hnext2 _ ?_ fun a ha hak => hok ?_
            · exact Heap.le_trans (wn.over (o := .row 4 [[.v (I 0), .v (I 0), .v (I 0), .v .nilsl]]) z2g).le (Heap.le_upd hzm (Heap.le_refl _))
            · obtain ⟨q1, q2⟩ := readAct_ok ha
              rw [show mkAct k n = a by rw [← hak, (hfact a ha).2]; exact mkAct_of q1]; exact q1
        · have e0 : n[Int.toNat 0]? = some (n.getD 0 0) := by
            show n[0]? = _
            rw [List.getD_eq_getElem?_getD, List.getElem?_eq_getElem (by omega)]; rfl
          have e1 : n[Int.toNat 1]? = some (n.getD 1 0) := by
            show n[1]? = _
            rw [List.getD_eq_getElem?_getD, List.getElem?_eq_getElem (by omega)]; rfl
          have eA : (mkAct k n).fA = if 0 < 2 then n.getD 0 0 else 0 := by simp [mkAct, e]
          have eB : (mkAct k n).fB = if 1 < 2 then n.getD 1 0 else 0 := by simp [mkAct, e]
          simp only [Nat.lt_irrefl, ↓reduceIte, Nat.zero_lt_one, Nat.not_lt_zero, Nat.one_lt_two, Nat.zero_lt_two, (by decide : ¬ 1 < 0)] at eA eB
          have c0 : (((2 : Nat) : Int) > 0) = _ := eq_true (by omega)
          have c1 : (((2 : Nat) : Int) > 1) = _ := eq_true (by omega)
          rw [e]
          simp (maxSteps := 1000000) -dsimp -implicitDefEqProofs only [go_sem, ↓reduceIte, keep5, ib5, mk5, Tryd.f5, oy.flat, oy.one, c0, c1, false_imp_iff, true_and, not_false_iff, true_imp_iff, not_true_eq_false, e0, e1]
          intro m q_m
          have d_m_n2 : ¬ m = n2 := by first | exact q_m.1 | exact q_m | exact q_m.2.1 | exact q_m.2 | exact q_m.2.2.1 | exact q_m.2.2 | exact q_m.2.2.2.1 | exact q_m.2.2.2 | exact q_m.2.2.2.2.1 | exact q_m.2.2.2.2 | exact q_m.2.2.2.2.2.1 | exact q_m.2.2.2.2.2 | exact q_m.2.2.2.2.2.2.1 | exact q_m.2.2.2.2.2.2 | exact q_m.2.2.2.2.2.2.2.1 | exact q_m.2.2.2.2.2.2.2 | exact q_m.2.2.2.2.2.2.2.2.1 | exact q_m.2.2.2.2.2.2.2.2 | exact q_m.2.2.2.2.2.2.2.2.2.1 | exact q_m.2.2.2.2.2.2.2.2.2 | exact q_m.2.2.2.2.2.2.2.2.2.2.1 | exact q_m.2.2.2.2.2.2.2.2.2.2 | exact q_m.2.2.2.2.2.2.2.2.2.2.2.1 | exact q_m.2.2.2.2.2.2.2.2.2.2.2 | exact q_m.2.2.2.2.2.2.2.2.2.2.2.2.1 | exact q_m.2.2.2.2.2.2.2.2.2.2.2.2 | exact q_m.2.2.2.2.2.2.2.2.2.2.2.2.2.1 | exact q_m.2.2.2.2.2.2.2.2.2.2.2.2.2
          have e_m_n2 : (m = n2) = False := eq_false d_m_n2
          have e_n2_m : (n2 = m) = False := eq_false (Ne.symm d_m_n2)
          have d_n2_m : ¬ n2 = m := Ne.symm d_m_n2
          have z_m : g m = none := by first | exact q_m.1 | exact q_m | exact q_m.2.1 | exact q_m.2 | exact q_m.2.2.1 | exact q_m.2.2 | exact q_m.2.2.2.1 | exact q_m.2.2.2 | exact q_m.2.2.2.2.1 | exact q_m.2.2.2.2 | exact q_m.2.2.2.2.2.1 | exact q_m.2.2.2.2.2 | exact q_m.2.2.2.2.2.2.1 | exact q_m.2.2.2.2.2.2 | exact q_m.2.2.2.2.2.2.2.1 | exact q_m.2.2.2.2.2.2.2 | exact q_m.2.2.2.2.2.2.2.2.1 | exact q_m.2.2.2.2.2.2.2.2 | exact q_m.2.2.2.2.2.2.2.2.2.1 | exact q_m.2.2.2.2.2.2.2.2.2 | exact q_m.2.2.2.2.2.2.2.2.2.2.1 | exact q_m.2.2.2.2.2.2.2.2.2.2 | exact q_m.2.2.2.2.2.2.2.2.2.2.2.1 | exact q_m.2.2.2.2.2.2.2.2.2.2.2 | exact q_m.2.2.2.2.2.2.2.2.2.2.2.2.1 | exact q_m.2.2.2.2.2.2.2.2.2.2.2.2 | exact q_m.2.2.2.2.2.2.2.2.2.2.2.2.2.1 | exact q_m.2.2.2.2.2.2.2.2.2.2.2.2.2
          repeat' (with_reducible first | intro _ | refine And.intro ?_ ?_)
          all_goals try omega
          have hrow : ([[Cell.v (HVal.int IntKind.i64 k), Cell.v (HVal.int IntKind.i64 (mkAct k n).fA), Cell.v (HVal.int IntKind.i64 (mkAct k n).fB), Cell.v y.val]] : List (List Cell)) = OV.cells [[.v (I k), .v (I (mkAct k n).fA), .v (I (mkAct k n).fB), y]] := rfl
          rw [eA, eB] at hrow
          simp only [upd_upd]
          rw [hrow]
          have hzm : upd g n2 (.row 4 [[.v (I 0), .v (I 0), .v (I 0), .v .nilsl]]) m = none := by rw [upd_ne _ _ _ _ d_m_n2]; exact z_m
          have hvw := View.box (sz := 4) (DAct.o_dat oa) hzm (by simpa only [OV.row_cons, OV.v_rows, OV.row_nil, List.nil_append, List.append_nil] using (wn.over (o := .row 4 [[.v (I 0), .v (I 0), .v (I 0), .v .nilsl]]) z2g).owns)
          rw [eA, eB] at hvw oa
          refine HFnF.lend0 (l08Act (mkAct k n) has) (ViewL.cons hvw ViewL.nil) rfl ?_
          simp (maxSteps := 1000000) -dsimp -implicitDefEqProofs only [go_sem, ↓reduceIte, keep5, ib5, mk5, Tryd.f5]
          refine ⟨fun hok => ?_, fun hok => ?_⟩
          · refine HFnF.lend0 (l08ActText (mkAct k n) hok) (ViewL.cons hvw ViewL.nil) rfl ?_
            simp (maxSteps := 1000000) -dsimp -implicitDefEqProofs only [go_sem, ↓reduceIte, keep5, ib5, mk5, Tryd.f5, OV.map_val, OV.map_val_nil, OV.val_v, upd_upd, upd_ne, cells_box, cellv_cons, cellv_nil, oy.flat, oy.one, e_m_n2, e_n2_m]
            refine ⟨fun htx => ?_, fun htx => hnext2 _ ?_ fun a ha hak => htx ?_⟩
            · rw [readRes_some (readAct_some hok ((actText_of hok).trans htx))]
              exact own_end (w := fun y => .tup [y, I 0]) oa (by simpa only [OV.row_cons, OV.v_rows, OV.row_nil, List.nil_append, List.append_nil] using wn) (by repeat' (first | exact Heap.le_refl _ | refine Heap.le_both ?_ | refine Heap.le_upd (by first | assumption | (rw [upd_ne _ _ _ _ (by assumption)]; assumption) | (rw [upd_ne _ _ _ _ (by assumption), upd_ne _ _ _ _ (by assumption)]; assumption) | (rw [upd_ne _ _ _ _ (by assumption), upd_ne _ _ _ _ (by assumption), upd_ne _ _ _ _ (by assumption)]; assumption)) ?_))
            · exact Heap.le_trans (wn.over (o := .row 4 [[.v (I 0), .v (I 0), .v (I 0), .v .nilsl]]) z2g).le (Heap.le_upd hzm (Heap.le_refl _))
            · obtain ⟨q1, q2⟩ := readAct_ok ha
              rw [show mkAct k n = a by rw [← hak, (hfact a ha).2]; exact mkAct_of q1, ← actText_of q1, q2]
          · refine hnext2 _ ?_ fun a ha hak => hok ?_
            · exact Heap.le_trans (wn.over (o := .row 4 [[.v (I 0), .v (I 0), .v (I 0), .v .nilsl]]) z2g).le (Heap.le_upd hzm (Heap.le_refl _))
            · obtain ⟨q1, q2⟩ := readAct_ok ha
              rw [show mkAct k n = a by rw [← hak, (hfact a ha).2]; exact mkAct_of q1]; exact q1
    · have hk11 : k = 11 := by omega
      have hno : readAct t = none := by
        cases e : readAct t with
        | none => rfl
        | some a =>
          have h1 := hmin a e
          have h2 := (readAct_ok e).1.kind
          omega
      subst hk11
      simp (maxSteps := 1000000) -dsimp -implicitDefEqProofs only [go_sem, ↓reduceIte, keep5, ib5, mk5, Tryd.f5]
      repeat' (with_reducible first | intro _ | refine And.intro ?_ ?_)
      all_goals try (first | omega | decide)
      all_goals exact readRes_err hno (by repeat' (first | exact Heap.le_refl _ | refine Heap.le_both ?_ | refine Heap.le_upd (by first | assumption | (rw [upd_ne _ _ _ _ (by assumption)]; assumption) | (rw [upd_ne _ _ _ _ (by assumption), upd_ne _ _ _ _ (by assumption)]; assumption) | (rw [upd_ne _ _ _ _ (by assumption), upd_ne _ _ _ _ (by assumption), upd_ne _ _ _ _ (by assumption)]; assumption)) ?_))
open Go.Proofs
set_option linter.unusedVariables false
set_option linter.unusedSimpArgs false
theorem bytes_inj {a b : List UInt8} : ((⟨a.toArray⟩ : ByteArray) = ⟨b.toArray⟩) ↔ a = b := by simp
def actWl : List (List UInt8) := [[103, 105, 118, 101], [119, 111, 114, 107], [100, 101, 108, 105, 118, 101, 114], [99, 111, 112, 121], [100, 114, 111, 112], [100, 111, 119, 110], [99, 114, 97, 115, 104], [115, 121, 110, 99], [112, 111, 105, 110, 116], [116, 101, 114, 109]]
/-- The kind with a word, 0 if there is none. -/
def kindOf (w : List UInt8) : Int := Go.Lib.idxOfS (actWl.map fun s => (⟨s.toArray⟩ : ByteArray)) ⟨w.toArray⟩ + 1
theorem kindOf_cases (w : List UInt8) : (kindOf w = 0 ∧ ∀ k : Int, 1 ≤ k → k ≤ 10 → ¬ w = actWord k) ∨ (1 ≤ kindOf w ∧ kindOf w ≤ 10 ∧ w = actWord (kindOf w)) := by
  by_cases h : ∃ k : Int, (1 ≤ k ∧ k ≤ 10) ∧ w = actWord k
  · obtain ⟨k, hk, rfl⟩ := h
    right
    have : kindOf (actWord k) = k := by
      rcases (by omega : k = 1 ∨ k = 2 ∨ k = 3 ∨ k = 4 ∨ k = 5 ∨ k = 6 ∨ k = 7 ∨ k = 8 ∨ k = 9 ∨ k = 10) with rfl | rfl | rfl | rfl | rfl | rfl | rfl | rfl | rfl | rfl
      all_goals decide
    rw [this]; exact ⟨hk.1, hk.2, rfl⟩
  · left
    have hn : ∀ k : Int, 1 ≤ k → k ≤ 10 → ¬ w = actWord k := fun k h1 h2 h3 => h ⟨k, ⟨h1, h2⟩, h3⟩
    refine ⟨?_, hn⟩
    have q : ∀ k : Int, 1 ≤ k → k ≤ 10 → ¬ actWord k = w := fun k h1 h2 e => hn k h1 h2 e.symm
    have h1 : ¬ [103, 105, 118, 101] = w := q 1 (by decide) (by decide)
    have h2 : ¬ [119, 111, 114, 107] = w := q 2 (by decide) (by decide)
    have h3 : ¬ [100, 101, 108, 105, 118, 101, 114] = w := q 3 (by decide) (by decide)
    have h4 : ¬ [99, 111, 112, 121] = w := q 4 (by decide) (by decide)
    have h5 : ¬ [100, 114, 111, 112] = w := q 5 (by decide) (by decide)
    have h6 : ¬ [100, 111, 119, 110] = w := q 6 (by decide) (by decide)
    have h7 : ¬ [99, 114, 97, 115, 104] = w := q 7 (by decide) (by decide)
    have h8 : ¬ [115, 121, 110, 99] = w := q 8 (by decide) (by decide)
    have h9 : ¬ [112, 111, 105, 110, 116] = w := q 9 (by decide) (by decide)
    have h10 : ¬ [116, 101, 114, 109] = w := q 10 (by decide) (by decide)
    simp only [kindOf, actWl, List.map_cons, List.map_nil, Go.Lib.idxOfS, Go.Lib.idxFromS, bytes_inj]
    rw [if_neg h1, if_neg h2, if_neg h3, if_neg h4, if_neg h5, if_neg h6, if_neg h7, if_neg h8, if_neg h9, if_neg h10]
    rfl
/-- What an act's text is made of, as impl reads it. -/
theorem readAct_cut {t : List UInt8} {a : DAct} (h : readAct t = some a) : (Go.Lib.cut t [32]).1 = actWord a.fKind ∧ readL 14 1000002 (Go.Lib.cut t [32]).2.1 = some (actNums a) := by
  obtain ⟨h1, h2⟩ := readAct_ok h
  rw [actText_of h1] at h2
  have hl := actNums_len h1
  have hr := actNums_rg h1 (hi := 1000002) (Int.le_refl _)
  cases hn : actNums a with
  | nil =>
    rw [hn, wordsL, List.append_nil] at h2
    rw [← h2, cut_miss 32 _ (actWord_no _)]
    exact ⟨rfl, readL_nil.2 rfl⟩
  | cons n l =>
    rw [hn] at h2 hl hr
    have h3 : t = actWord a.fKind ++ 32 :: (Go.Lib.itoa n ++ wordsL l) := by rw [← h2]; simp [wordsL]
    rw [h3, cut_hit 32 _ _ (actWord_no _)]
    refine ⟨rfl, (readL_words (by decide) (w := actWord a.fKind) (by simp)).2 ⟨?_, hl, hr⟩⟩
    simp [wordsL]
/-- The act that impl makes of a kind and numbers. -/
def cutA (K : Int) (L : List Int) : DAct := ⟨K, if (K ≠ 8 ∧ K ≠ 9) ∧ 0 < L.length then L.getD 0 0 else 0, if K = 1 ∧ 1 < L.length then L.getD 1 0 else 0, L.drop (if K = 1 ∧ 1 < L.length then 2 else if (K ≠ 8 ∧ K ≠ 9) ∧ 0 < L.length then 1 else 0)⟩
theorem cutA_of {a : DAct} (ha : a.ok) : cutA a.fKind (actNums a) = a := by
  have h1 := ha.first
  have h2 := ha.second
  have h3 := mkAct_of ha
  have h4 := uses_len a
  generalize actNums a = L at *
  conv => rhs; rw [← h3]
  unfold cutA mkAct
  rcases (by omega : a.fKind = 1 ∨ a.fKind = 8 ∨ a.fKind = 9 ∨ (a.fKind ≠ 1 ∧ a.fKind ≠ 8 ∧ a.fKind ≠ 9)) with e | e | e | e
  · have hu : uses a.fKind = 2 := by simp [uses, e]
    rw [hu] at h4 ⊢
    simp [e, show 0 < L.length by omega, show 1 < L.length by omega]
  · have hu : uses a.fKind = 0 := by simp [uses, e]
    rw [hu]; simp [e]
  · have hu : uses a.fKind = 0 := by simp [uses, e]
    rw [hu]; simp [e]
  · have hu : uses a.fKind = 1 := by simp [uses, e]
    rw [hu] at h4 ⊢
    simp [e, show 0 < L.length by omega]
theorem readAct_cutA {t : List UInt8} {L : List Int} (hL : readL 14 1000002 (Go.Lib.cut t [32]).2.1 = some L) (hK : ¬ kindOf (Go.Lib.cut t [32]).1 = 0) :
    (actText (cutA (kindOf (Go.Lib.cut t [32]).1) L) = t → (cutA (kindOf (Go.Lib.cut t [32]).1) L).ok ∧ readAct t = some (cutA (kindOf (Go.Lib.cut t [32]).1) L)) ∧ (¬ actText (cutA (kindOf (Go.Lib.cut t [32]).1) L) = t → readAct t = none) := by
  constructor
  · intro h
    have hok : (cutA (kindOf (Go.Lib.cut t [32]).1) L).ok := by
      refine Classical.byContradiction fun hn => ?_
      rw [actText, if_neg hn] at h
      rw [← h] at hK
      exact hK (by decide)
    exact ⟨hok, readAct_some hok h⟩
  · intro h
    refine readAct_no fun a ha e => h ?_
    obtain ⟨h1, h2⟩ := readAct_cut (readAct_some ha e)
    rw [hL] at h2
    rcases kindOf_cases (Go.Lib.cut t [32]).1 with q | q
    · exact absurd q.1 hK
    · have hk := actWord_inj ⟨q.1, q.2.1⟩ ha.kind (q.2.2.symm.trans h1)
      rw [hk, Option.some.inj h2, cutA_of ha]; exact e
theorem readAct_bad {t : List UInt8} (h : readL 14 1000002 (Go.Lib.cut t [32]).2.1 = none ∨ kindOf (Go.Lib.cut t [32]).1 = 0) : readAct t = none := by
  cases e : readAct t with
  | none => rfl
  | some a =>
    obtain ⟨h1, h2⟩ := readAct_cut e
    have ha := (readAct_ok e).1
    rcases h with h | h
    · rw [h] at h2; cases h2
    · rcases kindOf_cases (Go.Lib.cut t [32]).1 with q | q
      · exact absurd h1 (q.2 _ ha.kind.1 ha.kind.2)
      · omega
end Go.Hl
