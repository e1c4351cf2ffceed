/-
  Contracts of functions and laws of the layer over the walk.
-/
import Derived.Test.YtenghpemjfacjaaDoorProg
import Derived.Shelf.Strconv.Itoa4
import Derived.Shelf.Strings.OnBuilder
import Derived.Shelf.LaysM
import Derived.KernelRfl
import Derived.Test.YtenghpemjfacjaaDoorHlD
namespace Go.Hl
open Go.Proofs
set_option linter.unusedVariables false
set_option linter.unusedSimpArgs false
end Go.Hl
namespace Go.Proofs
open Go.Shelf
def Tryd.laysM173_ren : Go.Shelf.Ren := ⟨fun | 173 => 87 | 246 => 104 | 283 => 111 | 284 => 112 | 285 => 113 | 286 => 114 | 129 => 126 | 317 => 125 | 318 => 127 | 319 => 128 | 320 => 129 | 337 => 141 | 338 => 142 | n => n, fun | 2 => 2 | 3 => 3 | 9 => 9 | 4 => 4 | 171 => 149 | 0 => 0 | 53 => 150 | 37 => 85 | 5 => 5 | 173 => 153 | 212 => 161 | 51 => 162 | 20 => 20 | 213 => 163 | 46 => 157 | 232 => 184 | 233 => 185 | n => n, fun | 17 => 1 | 18 => 4 | 19 => 5 | n => n⟩
theorem Tryd.laysM173 : Go.Proofs.LaysM.n173 Tryd.prog Tryd.laysM173_ren := {
  mixed := by kernel_rfl
  f129 := Tryd.func126.trans (congrArg some (by kernel_rfl))
  f173 := Tryd.func87.trans (congrArg some (by kernel_rfl))
  f246 := Tryd.func104.trans (congrArg some (by kernel_rfl))
  f283 := Tryd.func111.trans (congrArg some (by kernel_rfl))
  f284 := Tryd.func112.trans (congrArg some (by kernel_rfl))
  f285 := Tryd.func113.trans (congrArg some (by kernel_rfl))
  f286 := Tryd.func114.trans (congrArg some (by kernel_rfl))
  f317 := Tryd.func125.trans (congrArg some (by kernel_rfl))
  f318 := Tryd.func127.trans (congrArg some (by kernel_rfl))
  f319 := Tryd.func128.trans (congrArg some (by kernel_rfl))
  f320 := Tryd.func129.trans (congrArg some (by kernel_rfl))
  f337 := Tryd.func141.trans (congrArg some (by kernel_rfl))
  f338 := Tryd.func142.trans (congrArg some (by kernel_rfl))
  t0 := Tryd.underlying0
  a0 := Tryd.isAgg0
  z0 := Tryd.sizeOf0
  v0 := Tryd.zeroValue0
  t2 := Tryd.underlying2
  a2 := Tryd.isAgg2
  z2 := Tryd.sizeOf2
  v2 := Tryd.zeroValue2
  t3 := Tryd.underlying3
  a3 := Tryd.isAgg3
  z3 := Tryd.sizeOf3
  v3 := Tryd.zeroValue3
  t4 := Tryd.underlying4
  a4 := Tryd.isAgg4
  z4 := Tryd.sizeOf4
  v4 := Tryd.zeroValue4
  t5 := Tryd.underlying5
  a5 := Tryd.isAgg5
  z5 := Tryd.sizeOf5
  v5 := Tryd.zeroValue5
  t9 := Tryd.underlying9
  a9 := Tryd.isAgg9
  z9 := Tryd.sizeOf9
  v9 := Tryd.zeroValue9
  t20 := Tryd.underlying20
  a20 := Tryd.isAgg20
  z20 := Tryd.sizeOf20
  v20 := Tryd.zeroValue20
  t37 := Tryd.underlying85
  a37 := Tryd.isAgg85
  z37 := Tryd.sizeOf85
  v37 := Tryd.zeroValue85
  t46 := Tryd.underlying157
  a46 := Tryd.isAgg157
  z46 := Tryd.sizeOf157
  v46 := Tryd.zeroValue157
  t51 := Tryd.underlying162
  a51 := Tryd.isAgg162
  z51 := Tryd.sizeOf162
  v51 := Tryd.zeroValue162
  t53 := Tryd.underlying150
  a53 := Tryd.isAgg150
  z53 := Tryd.sizeOf150
  v53 := Tryd.zeroValue150
  t171 := Tryd.underlying149
  a171 := Tryd.isAgg149
  z171 := Tryd.sizeOf149
  v171 := Tryd.zeroValue149
  t173 := Tryd.underlying153
  a173 := Tryd.isAgg153
  z173 := Tryd.sizeOf153
  v173 := Tryd.zeroValue153
  t212 := Tryd.underlying161
  a212 := Tryd.isAgg161
  z212 := Tryd.sizeOf161
  v212 := Tryd.zeroValue161
  t213 := Tryd.underlying163
  a213 := Tryd.isAgg163
  z213 := Tryd.sizeOf163
  t232 := Tryd.underlying184
  a232 := Tryd.isAgg184
  z232 := Tryd.sizeOf184
  v232 := Tryd.zeroValue184
  t233 := Tryd.underlying185
  a233 := Tryd.isAgg185
  z233 := Tryd.sizeOf185
  v233 := Tryd.zeroValue185
  g17 := by kernel_rfl
  g18 := by kernel_rfl
  g19 := by kernel_rfl
  i0 := by kernel_rfl
  i2 := by kernel_rfl
  i3 := by kernel_rfl
  i4 := by kernel_rfl
  i5 := by kernel_rfl
  i9 := by kernel_rfl
  i20 := by kernel_rfl
  i37 := by kernel_rfl
  i46 := by kernel_rfl
  i51 := by kernel_rfl
  i53 := by kernel_rfl
  i171 := by kernel_rfl
  i173 := by kernel_rfl
  i212 := by kernel_rfl
  i232 := by kernel_rfl
  i233 := by kernel_rfl
  m17 := by kernel_rfl
  m18 := by kernel_rfl
  m19 := by kernel_rfl }
open Go.RowKit Go.Sort Go.Lib in
theorem Tryd.strconv_FormatInt_10 (n : Int) (h0 : -9223372036854775808 ≤ n) (h1 : n ≤ 9223372036854775807) (w : World) (htab : Lib.TabIs Tryd.prog w "internal/strconv.uint64pow10" .u64 Lib.pow10Tab) :
    Calls Tryd.prog 87 #[.int .i64 n, .int .i64 10] w fun e w' => e = .returned (.string ⟨(Lib.itoa n).toArray⟩) ∧ ∃ k os, w' = grow (w.drewN k) os := Any.strconv_FormatInt_10 Tryd.laysM173 n h0 h1 w htab
def Tryd.lays156_ren : Go.Shelf.Ren := ⟨fun | 156 => 98 | 165 => 109 | 166 => 48 | 169 => 52 | 240 => 86 | 241 => 124 | 276 => 103 | 277 => 140 | n => n, fun | 31 => 66 | 9 => 9 | 3 => 3 | 4 => 4 | 0 => 0 | 20 => 20 | 72 => 87 | 76 => 92 | 70 => 84 | 37 => 85 | 75 => 91 | 127 => 130 | 164 => 139 | 5 => 5 | 80 => 97 | n => n, fun | n => n⟩
theorem Tryd.lays156 : Go.Proofs.Lays.n156 Tryd.prog Tryd.lays156_ren := {
  mixed := by kernel_rfl
  f156 := Tryd.func98.trans (congrArg some (by kernel_rfl))
  f165 := Tryd.func109.trans (congrArg some (by kernel_rfl))
  f166 := Tryd.func48.trans (congrArg some (by kernel_rfl))
  f169 := Tryd.func52.trans (congrArg some (by kernel_rfl))
  f240 := Tryd.func86.trans (congrArg some (by kernel_rfl))
  f241 := Tryd.func124.trans (congrArg some (by kernel_rfl))
  f276 := Tryd.func103.trans (congrArg some (by kernel_rfl))
  f277 := Tryd.func140.trans (congrArg some (by kernel_rfl))
  t0 := Tryd.underlying0
  a0 := Tryd.isAgg0
  z0 := Tryd.sizeOf0
  v0 := Tryd.zeroValue0
  t3 := Tryd.underlying3
  a3 := Tryd.isAgg3
  z3 := Tryd.sizeOf3
  v3 := Tryd.zeroValue3
  t4 := Tryd.underlying4
  a4 := Tryd.isAgg4
  z4 := Tryd.sizeOf4
  v4 := Tryd.zeroValue4
  t9 := Tryd.underlying9
  a9 := Tryd.isAgg9
  z9 := Tryd.sizeOf9
  v9 := Tryd.zeroValue9
  t20 := Tryd.underlying20
  a20 := Tryd.isAgg20
  z20 := Tryd.sizeOf20
  v20 := Tryd.zeroValue20
  t31 := Tryd.underlying66
  a31 := Tryd.isAgg66
  z31 := Tryd.sizeOf66
  v31 := Tryd.zeroValue66
  t37 := Tryd.underlying85
  a37 := Tryd.isAgg85
  z37 := Tryd.sizeOf85
  v37 := Tryd.zeroValue85
  t70 := Tryd.underlying84
  a70 := Tryd.isAgg84
  z70 := Tryd.sizeOf84
  v70 := Tryd.zeroValue84
  t72 := Tryd.underlying87
  a72 := Tryd.isAgg87
  z72 := Tryd.sizeOf87
  v72 := Tryd.zeroValue87
  t75 := Tryd.underlying91
  a75 := Tryd.isAgg91
  z75 := Tryd.sizeOf91
  v75 := Tryd.zeroValue91
  t76 := Tryd.underlying92
  a76 := Tryd.isAgg92
  z76 := Tryd.sizeOf92
  v76 := Tryd.zeroValue92
  t127 := Tryd.underlying130
  a127 := Tryd.isAgg130
  z127 := Tryd.sizeOf130
  v127 := Tryd.zeroValue130
  t164 := Tryd.underlying139
  a164 := Tryd.isAgg139
  z164 := Tryd.sizeOf139
  v164 := Tryd.zeroValue139 }
theorem Tryd.Builder_Extra_156 : Builder.Extra Tryd.prog Tryd.lays156_ren := {
  sizeBuilder := by kernel_rfl
  liesBuilder := by kernel_rfl
  t5 := Tryd.underlying5
  a5 := Tryd.isAgg5
  z5 := Tryd.sizeOf5
  v5 := Tryd.zeroValue5
  infoByte := by kernel_rfl
  cellsByte := by kernel_rfl
  sizeByte := by kernel_rfl
  neB5 := by decide }
open Go.RowKit in
theorem Tryd.strings_Join_none (a : Option Addr) (c : Nat) (sep : ByteArray) (w : World) :
    Calls Tryd.prog 98 #[.slice a 0 c, .string sep] w fun e w' => e = .returned (.string ⟨#[]⟩) ∧ w' = w := Any.strings_Join_none Tryd.lays156 Tryd.Builder_Extra_156 a c sep w
open Go.RowKit in
theorem Tryd.strings_Join (bk o c : Nat) (xs : List ByteArray) (sep : ByteArray) (w : World) (hcells : ∀ (j : Nat) x, xs[j]? = some x → w.cell? ⟨bk, o + j, none⟩ = some (.string x)) (hbk : bk < w.heap.size) (hN : xs.length ≤ 140737488355328) (hcap : xs.length ≤ c) (hlen : (Lib.join (xs.map (·.data.toList)) sep.data.toList).length ≤ 140737488355328) :
    Calls Tryd.prog 98 #[.slice (some ⟨bk, o, none⟩) xs.length c, .string sep] w fun e w' => e = .returned (.string ⟨(Lib.join (xs.map (·.data.toList)) sep.data.toList).toArray⟩) ∧ Below w.heap.size w w' := Any.strings_Join Tryd.lays156 Tryd.Builder_Extra_156 bk o c xs sep w hcells hbk hN hcap hlen
end Go.Proofs
namespace Go.Hl

open Go.Proofs
set_option linter.unusedVariables false
set_option linter.unusedSimpArgs false
@[go_sem] theorem ty2 : tyR Tryd.prog 2 = some ⟨1, false, 8, [.int .i64 0], .int .i64⟩ := by kernel_rfl
@[go_sem] theorem ty3 : tyR Tryd.prog 3 = some ⟨1, false, 8, [.int .i64 0], .int .i64⟩ := by kernel_rfl
@[go_sem] theorem ty5 : tyR Tryd.prog 5 = some ⟨1, false, 1, [.int .u8 0], .int .u8⟩ := by kernel_rfl
@[go_sem] theorem ty9 : tyR Tryd.prog 9 = some ⟨1, false, 16, [.str []], .str⟩ := by kernel_rfl
@[go_sem] theorem ty21 : tyR Tryd.prog 21 = some ⟨1, false, 4, [.int .i32 0], .int .i32⟩ := by kernel_rfl
@[go_sem] theorem ty22 : tyR Tryd.prog 22 = some ⟨1, false, 24, [.nilsl], .slice 2⟩ := by kernel_rfl
@[go_sem] theorem ty24 : tyR Tryd.prog 24 = some ⟨4, true, 48, [.int .i64 0, .int .i64 0, .int .i64 0, .nilsl], .st [(0, 2, 1), (1, 2, 1), (2, 2, 1), (3, 22, 1)]⟩ := by kernel_rfl
@[go_sem] theorem ty27 : tyR Tryd.prog 27 = some ⟨4, true, 48, [.int .i64 0, .int .i64 0, .int .i64 0, .nilsl], .st [(0, 2, 1), (1, 2, 1), (2, 2, 1), (3, 22, 1)]⟩ := by kernel_rfl
@[go_sem] theorem ty31 : tyR Tryd.prog 31 = some ⟨1, false, 24, [.nilsl], .slice 114⟩ := by kernel_rfl
@[go_sem] theorem ty33 : tyR Tryd.prog 33 = some ⟨1, true, 24, [.nilsl], .st [(0, 31, 1)]⟩ := by kernel_rfl
@[go_sem] theorem ty34 : tyR Tryd.prog 34 = some ⟨1, false, 24, [.nilsl], .slice 36⟩ := by kernel_rfl
@[go_sem] theorem ty36 : tyR Tryd.prog 36 = some ⟨5, true, 56, [.int .i64 0, .int .i64 0, .int .i64 0, .int .i64 0, .nilsl], .st [(0, 2, 1), (1, 2, 1), (2, 2, 1), (3, 2, 1), (4, 34, 1)]⟩ := by kernel_rfl
@[go_sem] theorem ty40 : tyR Tryd.prog 40 = some ⟨1, false, 24, [.nilsl], .slice 89⟩ := by kernel_rfl
@[go_sem] theorem ty42 : tyR Tryd.prog 42 = some ⟨1, true, 24, [.nilsl], .st [(0, 40, 1)]⟩ := by kernel_rfl
@[go_sem] theorem ty44 : tyR Tryd.prog 44 = some ⟨1, false, 24, [.nilsl], .slice 46⟩ := by kernel_rfl
@[go_sem] theorem ty46 : tyR Tryd.prog 46 = some ⟨5, true, 56, [.int .i64 0, .int .i64 0, .int .i64 0, .int .i64 0, .nilsl], .st [(0, 2, 1), (1, 2, 1), (2, 2, 1), (3, 2, 1), (4, 44, 1)]⟩ := by kernel_rfl
@[go_sem] theorem ty66 : tyR Tryd.prog 66 = some ⟨1, false, 24, [.nilsl], .slice 9⟩ := by kernel_rfl
@[go_sem] theorem ty84 : tyR Tryd.prog 84 = some ⟨1, false, 8, [.nilptr], .ptr 87⟩ := by kernel_rfl
@[go_sem] theorem ty85 : tyR Tryd.prog 85 = some ⟨1, false, 24, [.nilsl], .slice 5⟩ := by kernel_rfl
@[go_sem] theorem ty87 : tyR Tryd.prog 87 = some ⟨2, true, 32, [.nilptr, .nilsl], .st [(0, 84, 1), (1, 85, 1)]⟩ := by kernel_rfl
@[go_sem] theorem ty89 : tyR Tryd.prog 89 = some ⟨3, true, 48, [.str [], .int .i64 0, .nilsl], .st [(0, 9, 1), (1, 2, 1), (2, 44, 1)]⟩ := by kernel_rfl
@[go_sem] theorem ty91 : tyR Tryd.prog 91 = some ⟨1, false, 16, [.nilif], .other⟩ := by kernel_rfl
@[go_sem] theorem ty114 : tyR Tryd.prog 114 = some ⟨3, true, 48, [.str [], .int .i64 0, .nilsl], .st [(0, 9, 1), (1, 2, 1), (2, 34, 1)]⟩ := by kernel_rfl
@[go_sem] theorem ty124 : tyR Tryd.prog 124 = some ⟨2, true, 32, [.nilsl, .int .i64 0], .st [(0, 42, 1), (1, 2, 1)]⟩ := by kernel_rfl
@[go_sem] theorem ty130 : tyR Tryd.prog 130 = some ⟨1, false, 8, [.nilptr], .ptr 5⟩ := by kernel_rfl
@[go_sem] theorem ty149 : tyR Tryd.prog 149 = some ⟨24, true, 24, [.int .u8 0, .int .u8 0, .int .u8 0, .int .u8 0, .int .u8 0, .int .u8 0, .int .u8 0, .int .u8 0, .int .u8 0, .int .u8 0, .int .u8 0, .int .u8 0, .int .u8 0, .int .u8 0, .int .u8 0, .int .u8 0, .int .u8 0, .int .u8 0, .int .u8 0, .int .u8 0, .int .u8 0, .int .u8 0, .int .u8 0, .int .u8 0], .arr 24 5⟩ := by kernel_rfl
@[go_sem] theorem ty150 : tyR Tryd.prog 150 = some ⟨1, false, 8, [.int .u64 0], .int .u64⟩ := by kernel_rfl
@[go_sem] theorem ty157 : tyR Tryd.prog 157 = some ⟨1, false, 8, [.int .u64 0], .int .u64⟩ := by kernel_rfl
@[go_sem] theorem ty161 : tyR Tryd.prog 161 = some ⟨20, true, 160, [.int .u64 0, .int .u64 0, .int .u64 0, .int .u64 0, .int .u64 0, .int .u64 0, .int .u64 0, .int .u64 0, .int .u64 0, .int .u64 0, .int .u64 0, .int .u64 0, .int .u64 0, .int .u64 0, .int .u64 0, .int .u64 0, .int .u64 0, .int .u64 0, .int .u64 0, .int .u64 0], .arr 20 150⟩ := by kernel_rfl
@[go_sem] theorem ty162 : tyR Tryd.prog 162 = some ⟨1, false, 4, [.int .u32 0], .int .u32⟩ := by kernel_rfl
@[go_sem] theorem ty163 : tyR Tryd.prog 163 = some ⟨65, true, 65, [.int .u8 0, .int .u8 0, .int .u8 0, .int .u8 0, .int .u8 0, .int .u8 0, .int .u8 0, .int .u8 0, .int .u8 0, .int .u8 0, .int .u8 0, .int .u8 0, .int .u8 0, .int .u8 0, .int .u8 0, .int .u8 0, .int .u8 0, .int .u8 0, .int .u8 0, .int .u8 0, .int .u8 0, .int .u8 0, .int .u8 0, .int .u8 0, .int .u8 0, .int .u8 0, .int .u8 0, .int .u8 0, .int .u8 0, .int .u8 0, .int .u8 0, .int .u8 0, .int .u8 0, .int .u8 0, .int .u8 0, .int .u8 0, .int .u8 0, .int .u8 0, .int .u8 0, .int .u8 0, .int .u8 0, .int .u8 0, .int .u8 0, .int .u8 0, .int .u8 0, .int .u8 0, .int .u8 0, .int .u8 0, .int .u8 0, .int .u8 0, .int .u8 0, .int .u8 0, .int .u8 0, .int .u8 0, .int .u8 0, .int .u8 0, .int .u8 0, .int .u8 0, .int .u8 0, .int .u8 0, .int .u8 0, .int .u8 0, .int .u8 0, .int .u8 0, .int .u8 0], .arr 65 5⟩ := by kernel_rfl
@[go_sem] theorem ty182 : tyR Tryd.prog 182 = some ⟨3, true, 48, [.str [], .str [], .nilif], .st [(0, 9, 1), (1, 9, 1), (2, 91, 1)]⟩ := by kernel_rfl
@[go_sem] theorem ty184 : tyR Tryd.prog 184 = some ⟨32, true, 32, [.int .u8 0, .int .u8 0, .int .u8 0, .int .u8 0, .int .u8 0, .int .u8 0, .int .u8 0, .int .u8 0, .int .u8 0, .int .u8 0, .int .u8 0, .int .u8 0, .int .u8 0, .int .u8 0, .int .u8 0, .int .u8 0, .int .u8 0, .int .u8 0, .int .u8 0, .int .u8 0, .int .u8 0, .int .u8 0, .int .u8 0, .int .u8 0, .int .u8 0, .int .u8 0, .int .u8 0, .int .u8 0, .int .u8 0, .int .u8 0, .int .u8 0, .int .u8 0], .arr 32 5⟩ := by kernel_rfl
@[go_sem] theorem ty185 : tyR Tryd.prog 185 = some ⟨64, true, 64, [.int .u8 0, .int .u8 0, .int .u8 0, .int .u8 0, .int .u8 0, .int .u8 0, .int .u8 0, .int .u8 0, .int .u8 0, .int .u8 0, .int .u8 0, .int .u8 0, .int .u8 0, .int .u8 0, .int .u8 0, .int .u8 0, .int .u8 0, .int .u8 0, .int .u8 0, .int .u8 0, .int .u8 0, .int .u8 0, .int .u8 0, .int .u8 0, .int .u8 0, .int .u8 0, .int .u8 0, .int .u8 0, .int .u8 0, .int .u8 0, .int .u8 0, .int .u8 0, .int .u8 0, .int .u8 0, .int .u8 0, .int .u8 0, .int .u8 0, .int .u8 0, .int .u8 0, .int .u8 0, .int .u8 0, .int .u8 0, .int .u8 0, .int .u8 0, .int .u8 0, .int .u8 0, .int .u8 0, .int .u8 0, .int .u8 0, .int .u8 0, .int .u8 0, .int .u8 0, .int .u8 0, .int .u8 0, .int .u8 0, .int .u8 0, .int .u8 0, .int .u8 0, .int .u8 0, .int .u8 0, .int .u8 0, .int .u8 0, .int .u8 0, .int .u8 0], .arr 64 5⟩ := by kernel_rfl
@[go_sem] theorem ty186 : tyR Tryd.prog 186 = some ⟨256, true, 256, [.int .u8 0, .int .u8 0, .int .u8 0, .int .u8 0, .int .u8 0, .int .u8 0, .int .u8 0, .int .u8 0, .int .u8 0, .int .u8 0, .int .u8 0, .int .u8 0, .int .u8 0, .int .u8 0, .int .u8 0, .int .u8 0, .int .u8 0, .int .u8 0, .int .u8 0, .int .u8 0, .int .u8 0, .int .u8 0, .int .u8 0, .int .u8 0, .int .u8 0, .int .u8 0, .int .u8 0, .int .u8 0, .int .u8 0, .int .u8 0, .int .u8 0, .int .u8 0, .int .u8 0, .int .u8 0, .int .u8 0, .int .u8 0, .int .u8 0, .int .u8 0, .int .u8 0, .int .u8 0, .int .u8 0, .int .u8 0, .int .u8 0, .int .u8 0, .int .u8 0, .int .u8 0, .int .u8 0, .int .u8 0, .int .u8 0, .int .u8 0, .int .u8 0, .int .u8 0, .int .u8 0, .int .u8 0, .int .u8 0, .int .u8 0, .int .u8 0, .int .u8 0, .int .u8 0, .int .u8 0, .int .u8 0, .int .u8 0, .int .u8 0, .int .u8 0, .int .u8 0, .int .u8 0, .int .u8 0, .int .u8 0, .int .u8 0, .int .u8 0, .int .u8 0, .int .u8 0, .int .u8 0, .int .u8 0, .int .u8 0, .int .u8 0, .int .u8 0, .int .u8 0, .int .u8 0, .int .u8 0, .int .u8 0, .int .u8 0, .int .u8 0, .int .u8 0, .int .u8 0, .int .u8 0, .int .u8 0, .int .u8 0, .int .u8 0, .int .u8 0, .int .u8 0, .int .u8 0, .int .u8 0, .int .u8 0, .int .u8 0, .int .u8 0, .int .u8 0, .int .u8 0, .int .u8 0, .int .u8 0, .int .u8 0, .int .u8 0, .int .u8 0, .int .u8 0, .int .u8 0, .int .u8 0, .int .u8 0, .int .u8 0, .int .u8 0, .int .u8 0, .int .u8 0, .int .u8 0, .int .u8 0, .int .u8 0, .int .u8 0, .int .u8 0, .int .u8 0, .int .u8 0, .int .u8 0, .int .u8 0, .int .u8 0, .int .u8 0, .int .u8 0, .int .u8 0, .int .u8 0, .int .u8 0, .int .u8 0, .int .u8 0, .int .u8 0, .int .u8 0, .int .u8 0, .int .u8 0, .int .u8 0, .int .u8 0, .int .u8 0, .int .u8 0, .int .u8 0, .int .u8 0, .int .u8 0, .int .u8 0, .int .u8 0, .int .u8 0, .int .u8 0, .int .u8 0, .int .u8 0, .int .u8 0, .int .u8 0, .int .u8 0, .int .u8 0, .int .u8 0, .int .u8 0, .int .u8 0, .int .u8 0, .int .u8 0, .int .u8 0, .int .u8 0, .int .u8 0, .int .u8 0, .int .u8 0, .int .u8 0, .int .u8 0, .int .u8 0, .int .u8 0, .int .u8 0, .int .u8 0, .int .u8 0, .int .u8 0, .int .u8 0, .int .u8 0, .int .u8 0, .int .u8 0, .int .u8 0, .int .u8 0, .int .u8 0, .int .u8 0, .int .u8 0, .int .u8 0, .int .u8 0, .int .u8 0, .int .u8 0, .int .u8 0, .int .u8 0, .int .u8 0, .int .u8 0, .int .u8 0, .int .u8 0, .int .u8 0, .int .u8 0, .int .u8 0, .int .u8 0, .int .u8 0, .int .u8 0, .int .u8 0, .int .u8 0, .int .u8 0, .int .u8 0, .int .u8 0, .int .u8 0, .int .u8 0, .int .u8 0, .int .u8 0, .int .u8 0, .int .u8 0, .int .u8 0, .int .u8 0, .int .u8 0, .int .u8 0, .int .u8 0, .int .u8 0, .int .u8 0, .int .u8 0, .int .u8 0, .int .u8 0, .int .u8 0, .int .u8 0, .int .u8 0, .int .u8 0, .int .u8 0, .int .u8 0, .int .u8 0, .int .u8 0, .int .u8 0, .int .u8 0, .int .u8 0, .int .u8 0, .int .u8 0, .int .u8 0, .int .u8 0, .int .u8 0, .int .u8 0, .int .u8 0, .int .u8 0, .int .u8 0, .int .u8 0, .int .u8 0, .int .u8 0, .int .u8 0, .int .u8 0, .int .u8 0, .int .u8 0, .int .u8 0, .int .u8 0, .int .u8 0, .int .u8 0, .int .u8 0, .int .u8 0, .int .u8 0, .int .u8 0, .int .u8 0, .int .u8 0, .int .u8 0, .int .u8 0, .int .u8 0, .int .u8 0, .int .u8 0, .int .u8 0], .arr 256 5⟩ := by kernel_rfl
@[go_sem] theorem ty188 : tyR Tryd.prog 188 = some ⟨2, true, 2, [.int .u8 0, .int .u8 0], .st [(0, 5, 1), (1, 5, 1)]⟩ := by kernel_rfl
@[go_sem] theorem ty189 : tyR Tryd.prog 189 = some ⟨32, true, 32, [.int .u8 0, .int .u8 0, .int .u8 0, .int .u8 0, .int .u8 0, .int .u8 0, .int .u8 0, .int .u8 0, .int .u8 0, .int .u8 0, .int .u8 0, .int .u8 0, .int .u8 0, .int .u8 0, .int .u8 0, .int .u8 0, .int .u8 0, .int .u8 0, .int .u8 0, .int .u8 0, .int .u8 0, .int .u8 0, .int .u8 0, .int .u8 0, .int .u8 0, .int .u8 0, .int .u8 0, .int .u8 0, .int .u8 0, .int .u8 0, .int .u8 0, .int .u8 0], .arr 16 188⟩ := by kernel_rfl
@[go_sem] theorem ty192 : tyR Tryd.prog 192 = some ⟨1, true, 16, [.str []], .st [(0, 9, 1)]⟩ := by kernel_rfl
theorem mix : Tryd.prog.follows .mixedOrders = true := by kernel_rfl
open Go.Proofs
set_option linter.unusedVariables false
set_option linter.unusedSimpArgs false
abbrev I (n : Int) : HVal := .int .i64 n
abbrev ints (l : List Int) : HVal := .sl 1 (l.map fun n => [I n]) false
abbrev bools (l : List Bool) : HVal := .sl 1 (l.map fun b => [.bool b]) false
abbrev sls {α : Type} (sz : Nat) (c : α → List HVal) (l : List α) : HVal := .sl sz (l.map c) false

def InI (n : Int) : Prop := -9223372036854775808 ≤ n ∧ n ≤ 9223372036854775807
/-- What is left of a budget; -1 where it does not last. -/
def lft (left : Int) (n : Nat) : Int := if left - n < 0 then -1 else left - n


theorem lft_cases (left : Int) (n : Nat) : (lft left n = -1 ∧ left - n < 0) ∨ (lft left n = left - n ∧ 0 ≤ left - n) := by
  unfold lft; split
  · exact .inl ⟨rfl, by assumption⟩
  · exact .inr ⟨rfl, by omega⟩
theorem lft_neg {left : Int} {n : Nat} (h : left - n < 0) : lft left n = -1 := if_pos h
theorem lft_pos {left : Int} {n : Nat} (h : 0 ≤ left - n) : lft left n = left - n := if_neg (by omega)

theorem lft_step {left L : Int} {n : Nat} (h : lft left n = L) : (L < 0 → left - n < 0) ∧ (¬ L < 0 → L = left - n) := by
  subst h; unfold lft; split <;> constructor <;> intros <;> omega

/-- A row that is being filled from the left. -/
def fillUp {α : Type} (f : α → List HVal) (z : List HVal) (a : List α) (k : Nat) : List (List Cell) := ((a.take k).map f ++ List.replicate (a.length - k) z).map (List.map .v)
theorem fillUp_zero {α : Type} (f : α → List HVal) (z : List HVal) (a : List α) : fillUp f z a 0 = List.map (List.map .v) (List.replicate a.length z) := by simp [fillUp]
theorem fillUp_all {α : Type} (f : α → List HVal) (z : List HVal) (a : List α) : fillUp f z a a.length = (a.map f).map (List.map .v) := by simp [fillUp]
theorem fillUp_get {α : Type} (f : α → List HVal) (z : List HVal) (a : List α) (k : Nat) (h : k < a.length) : (fillUp f z a k)[k]? = some (z.map .v) := by
  have : ((a.take k).map f).length = k := by simp; omega
  simp only [fillUp, List.getElem?_map]
  rw [List.getElem?_append_right (by omega), this]
  have h0 : 0 < a.length - k := by omega
  simp [h0]
theorem fillUp_set {α : Type} (f : α → List HVal) (z : List HVal) (a : List α) (k : Nat) (h : k < a.length) (e : List Cell) (he : e = (f a[k]).map .v) : (fillUp f z a k).set k e = fillUp f z a (k + 1) := by
  subst he
  have h1 : ((a.take k).map f).length = k := by simp; omega
  simp only [fillUp]
  rw [← List.map_set, List.set_append_right _ _ (by omega), h1, Nat.sub_self, List.take_succ_eq_append_getElem h, show a.length - k = (a.length - (k + 1)) + 1 by omega, List.replicate_succ, List.set_cons_zero]
  simp only [List.map_append, List.map_cons, List.map_nil, List.append_assoc, List.cons_append, List.nil_append]
theorem le_fill {α : Type} {f : α → List HVal} {z : List HVal} {a : List α} {k : Nat} {h : Heap} {n sz : Nat} {e : List Cell} (hk : k < a.length) (he : e = (f a[k]).map .v) :
    (upd h n (.row sz (fillUp f z a (k + 1)))).le (upd (upd h n (.row sz (fillUp f z a k))) n (.row sz ((fillUp f z a k).set k e))) := by
  rw [fillUp_set f z a k hk e he, upd_upd]
  exact Heap.le_refl _
theorem upd_get (h : Heap) (n m : Nat) (o : HObj) : upd h n o m = if m = n then some o else h m := rfl
theorem getElem_of_eq {α : Type} {a b : List α} (e : a = b) {k : Nat} (ha : k < a.length) {hb : k < b.length} : a[k] = b[k] := by subst e; rfl
theorem take_step {α : Type} {a b : List α} {k : Nat} (ha : k < a.length) (hb : k < b.length) (hp : a.take k = b.take k) (he : a[k] = b[k]) : a.take (k + 1) = b.take (k + 1) := by
  rw [List.take_succ_eq_append_getElem ha, List.take_succ_eq_append_getElem hb, hp, he]
theorem eq_of_take {α : Type} {a b : List α} (hl : a.length = b.length) (h : a.take a.length = b.take a.length) : a = b := by
  rw [List.take_length, hl, List.take_length] at h; exact h
theorem valRows_map (l : List (List HVal)) : valRows (l.map (List.map .v)) = l := by
  induction l with
  | nil => rfl
  | cons e l ih =>
    have : valRow (e.map Cell.v) = e := by
      induction e with
      | nil => rfl
      | cons x e ih => simp only [List.map_cons, valRow, Cell.val, ih]
    simp only [valRows, List.map_cons] at ih ⊢
    rw [ih, this]
/-- A row of this function's own, handed back. -/
theorem shift_row {h h' : Heap} {n sz : Nat} (es : List (List HVal)) (h0 : h n = none) (hl : (upd h n (.row sz (es.map (List.map .v)))).le h') (len : Nat) (e : len = es.length) : Shift (.os n sz 0 len) h' (.sl sz es false) h := by
  subst e
  refine (Shift.of (Sub.refl _) hl).trans ((Shift.sealUp (upd_same _ _ _) (by simp [sealOK])).trans ?_)
  have : HVal.sealUp n (valRows (es.map (List.map .v))) (.os n sz 0 es.length) = .sl sz es false := by simp [HVal.sealUp, valRows_map]
  rw [this]
  exact shift_le ((le_upd h0).2 ((le_upd h0).2 (Heap.le_refl h)))

theorem all_step {α : Type} {P : α → Prop} {l : List α} {k : Nat} (h : k < l.length) (hp : ∀ x ∈ l.take k, P x) (he : P l[k]) : ∀ x ∈ l.take (k + 1), P x := by
  rw [List.take_succ_eq_append_getElem h]
  intro x hx
  rcases List.mem_append.1 hx with hx | hx
  · exact hp x hx
  · rw [List.mem_singleton.1 hx]; exact he
/-- The first place where p holds, or -1. -/
def idxOf {α : Type} (p : α → Bool) (l : List α) : Int := match l.findIdx? p with | some i => i | none => -1
theorem idxOf_none {α : Type} {p : α → Bool} {l : List α} (h : ∀ x ∈ l, p x = false) : idxOf p l = -1 := by
  have : l.findIdx? p = none := List.findIdx?_eq_none_iff.2 h
  simp only [idxOf, this]
theorem idxOf_some {α : Type} {p : α → Bool} {l : List α} {k : Nat} (hk : k < l.length) (h : ∀ x ∈ l.take k, p x = false) (he : p l[k] = true) : idxOf p l = k := by
  have : l.findIdx? p = some k := by
    rw [List.findIdx?_eq_some_iff_getElem]
    refine ⟨hk, he, fun j hj => ?_⟩
    have := h l[j] (List.mem_take_iff_getElem.2 ⟨j, by omega, rfl⟩)
    simp [this]
  simp only [idxOf, this]
theorem idxOf_nonneg {α : Type} {p : α → Bool} {l : List α} : decide (0 ≤ idxOf p l) = l.any p := by
  unfold idxOf
  cases h : l.findIdx? p with
  | none =>
    have := List.findIdx?_eq_none_iff.1 h
    simp only
    rw [Bool.eq_false_iff.2 (show l.any p ≠ true from ?_)]
    · simp
    · intro hx
      obtain ⟨x, hx, hp⟩ := List.any_eq_true.1 hx
      rw [this x hx] at hp; cases hp
  | some i =>
    obtain ⟨hi, hp, _⟩ := List.findIdx?_eq_some_iff_getElem.1 h
    have : l.any p = true := List.any_eq_true.2 ⟨_, List.getElem_mem hi, hp⟩
    rw [this]; simp
/-- A number of the field. -/
def Num (n : Int) : Prop := 0 ≤ n ∧ n ≤ 1000002
instance (n : Int) : Decidable (Num n) := inferInstanceAs (Decidable (0 ≤ n ∧ n ≤ 1000002))
def Nums (l : List Int) : Prop := ∀ x ∈ l, Num x
instance (l : List Int) : Decidable (Nums l) := inferInstanceAs (Decidable (∀ x ∈ l, Num x))
theorem any_not {α : Type} {P : α → Prop} [DecidablePred P] {l : List α} [Decidable (∀ x ∈ l, P x)] : (!l.any fun x => !decide (P x)) = decide (∀ x ∈ l, P x) := by
  rw [Bool.eq_iff_iff]
  simp [List.any_eq_false]
structure DAct where
  fKind : Int
  fA : Int
  fB : Int
  fNumbers : (List Int)
def DAct.c (x : DAct) : List HVal := [(.int .i64 x.fKind), (.int .i64 x.fA), (.int .i64 x.fB), (sls 1 (fun n => [I n]) x.fNumbers)]
def DAct.s (x : DAct) : Nat := x.fNumbers.length
theorem DAct.c_eq (x : DAct) : x.c = [(.int .i64 x.fKind), (.int .i64 x.fA), (.int .i64 x.fB), (sls 1 (fun n => [I n]) x.fNumbers)] := rfl
theorem DAct.s_eq (x : DAct) : x.s = x.fNumbers.length := rfl
@[simp] theorem DAct.c_len (x : DAct) : x.c.length = 4 := by rw [DAct.c_eq]; rfl
def DAct.wf (x : DAct) : Prop := InI x.fKind ∧ InI x.fA ∧ InI x.fB ∧ (∀ y ∈ x.fNumbers, InI y)
theorem DAct.eq_iff {a b : DAct} : a = b ↔ a.fKind = b.fKind ∧ a.fA = b.fA ∧ a.fB = b.fB ∧ a.fNumbers = b.fNumbers := by cases a; cases b; simp
noncomputable instance : DecidableEq DAct := fun a b => Classical.propDecidable (a = b)

inductive DExpr where
  | mk (fKind : Int) (fNum : Int) (fPick : Int) (fCount : Int) (fKids : (List DExpr))
def DExpr.fKind : DExpr → Int
  | .mk fKind fNum fPick fCount fKids => fKind
def DExpr.fNum : DExpr → Int
  | .mk fKind fNum fPick fCount fKids => fNum
def DExpr.fPick : DExpr → Int
  | .mk fKind fNum fPick fCount fKids => fPick
def DExpr.fCount : DExpr → Int
  | .mk fKind fNum fPick fCount fKids => fCount
def DExpr.fKids : DExpr → (List DExpr)
  | .mk fKind fNum fPick fCount fKids => fKids
mutual
def DExpr.c : DExpr → List HVal
  | .mk fKind fNum fPick fCount fKids => [(.int .i64 fKind), (.int .i64 fNum), (.int .i64 fPick), (.int .i64 fCount), .sl 5 (DExpr.cL fKids) false]
def DExpr.cL : List DExpr → List (List HVal)
  | [] => []
  | x :: l => x.c :: DExpr.cL l
end
mutual
def DExpr.s : DExpr → Nat
  | .mk fKind fNum fPick fCount fKids => (fKids.length + DExpr.sL fKids)
def DExpr.sL : List DExpr → Nat
  | [] => 0
  | x :: l => x.s + DExpr.sL l
end
theorem DExpr.cL_map : ∀ l, DExpr.cL l = l.map DExpr.c
  | [] => rfl
  | x :: l => by simp only [DExpr.cL, List.map_cons, DExpr.cL_map l]
theorem DExpr.sL_map : ∀ l, DExpr.sL l = (l.map DExpr.s).sum
  | [] => rfl
  | x :: l => by simp only [DExpr.sL, List.map_cons, List.sum_cons, DExpr.sL_map l]
theorem DExpr.c_eq (x : DExpr) : x.c = [(.int .i64 x.fKind), (.int .i64 x.fNum), (.int .i64 x.fPick), (.int .i64 x.fCount), (sls 5 DExpr.c x.fKids)] := by cases x; simp only [DExpr.c, DExpr.cL_map, sls]; rfl
theorem DExpr.s_eq (x : DExpr) : x.s = (szs DExpr.s x.fKids) := by cases x; simp only [DExpr.s, DExpr.sL_map, szs]; rfl
@[simp] theorem DExpr.c_len (x : DExpr) : x.c.length = 5 := by rw [DExpr.c_eq]; rfl
inductive DExpr.wf : DExpr → Prop
  | mk (x : DExpr) (h0 : InI x.fKind) (h1 : InI x.fNum) (h2 : InI x.fPick) (h3 : InI x.fCount) (hk : ∀ y ∈ x.fKids, y.wf) : x.wf
theorem DExpr.eq_iff {a b : DExpr} : a = b ↔ a.fKind = b.fKind ∧ a.fNum = b.fNum ∧ a.fPick = b.fPick ∧ a.fCount = b.fCount ∧ a.fKids = b.fKids := by cases a; cases b; simp [DExpr.fKind, DExpr.fNum, DExpr.fPick, DExpr.fCount, DExpr.fKids]
noncomputable instance : DecidableEq DExpr := fun a b => Classical.propDecidable (a = b)

structure DFunc where
  fName : (List UInt8)
  fParams : Int
  fOuts : (List DExpr)
def DFunc.c (x : DFunc) : List HVal := [(.str x.fName), (.int .i64 x.fParams), (sls 5 DExpr.c x.fOuts)]
def DFunc.s (x : DFunc) : Nat := x.fName.length + (szs DExpr.s x.fOuts)
theorem DFunc.c_eq (x : DFunc) : x.c = [(.str x.fName), (.int .i64 x.fParams), (sls 5 DExpr.c x.fOuts)] := rfl
theorem DFunc.s_eq (x : DFunc) : x.s = x.fName.length + (szs DExpr.s x.fOuts) := rfl
@[simp] theorem DFunc.c_len (x : DFunc) : x.c.length = 3 := by rw [DFunc.c_eq]; rfl
def DFunc.wf (x : DFunc) : Prop := InI x.fParams ∧ (∀ y ∈ x.fOuts, y.wf)
theorem DFunc.eq_iff {a b : DFunc} : a = b ↔ a.fName = b.fName ∧ a.fParams = b.fParams ∧ a.fOuts = b.fOuts := by cases a; cases b; simp
noncomputable instance : DecidableEq DFunc := fun a b => Classical.propDecidable (a = b)

structure DProgram where
  fFuncs : (List DFunc)
def DProgram.c (x : DProgram) : List HVal := [(sls 3 DFunc.c x.fFuncs)]
def DProgram.s (x : DProgram) : Nat := (szs DFunc.s x.fFuncs)
theorem DProgram.c_eq (x : DProgram) : x.c = [(sls 3 DFunc.c x.fFuncs)] := rfl
theorem DProgram.s_eq (x : DProgram) : x.s = (szs DFunc.s x.fFuncs) := rfl
@[simp] theorem DProgram.c_len (x : DProgram) : x.c.length = 1 := by rw [DProgram.c_eq]; rfl
def DProgram.wf (x : DProgram) : Prop := (∀ y ∈ x.fFuncs, y.wf)
theorem DProgram.eq_iff {a b : DProgram} : a = b ↔ a.fFuncs = b.fFuncs := by cases a; cases b; simp
noncomputable instance : DecidableEq DProgram := fun a b => Classical.propDecidable (a = b)


open Go.Proofs
set_option linter.unusedVariables false
set_option linter.unusedSimpArgs false
def keep63 : List Nat := [0, 1, 2, 6]
def ib63 : List Nat := []
def mk63 : Marks := fun _ => ([], .nil, [])
theorem l00In (n a b : Int) : Fn0 Tryd.prog 63 [I n, I a, I b] (.bool (decide (a ≤ n ∧ n ≤ b))) := by
  refine fn0F 15 keep63 ib63 mk63 mix Tryd.func63 rfl (by kernel_rfl) (by simp) fun h => ?_
  simp (maxSteps := 1000000) -dsimp -implicitDefEqProofs only [go_sem, ↓reduceIte, keep63, ib63, mk63, Tryd.f63]
  repeat' (with_reducible first | intro _ | refine And.intro ?_ ?_)
  all_goals try (first | (simp [*]; done) | omega | grind)
def keep66 : List Nat := [0, 1, 2, 6]
def ib66 : List Nat := []
def mk66 : Marks := fun _ => ([], .nil, [])
theorem within (n a b : Int) : Fn0 Tryd.prog 66 [I n, I a, I b] (.bool (decide (a ≤ n ∧ n ≤ b))) := by
  refine fn0F 15 keep66 ib66 mk66 mix Tryd.func66 rfl (by kernel_rfl) (by simp) fun h => ?_
  simp (maxSteps := 1000000) -dsimp -implicitDefEqProofs only [go_sem, ↓reduceIte, keep66, ib66, mk66, Tryd.f66]
  repeat' (with_reducible first | intro _ | refine And.intro ?_ ?_)
  all_goals try (first | (simp [*]; done) | omega | grind)
def keep94 : List Nat := [0, 2]
def ib94 : List Nat := []
def mk94 : Marks := fun _ => ([], .nil, [])
theorem l01Number (n : Int) : Fn0 Tryd.prog 94 [I n] (.bool (decide (Num n))) := by
  refine fn0F 5 keep94 ib94 mk94 mix Tryd.func94 rfl (by kernel_rfl) (by simp) fun h => ?_
  simp (maxSteps := 1000000) -dsimp -implicitDefEqProofs only [go_sem, ↓reduceIte, keep94, ib94, mk94, Tryd.f94]
  first | refine HFnF.mk (l00In n 0 1000002) ?_ | refine CallSF.mk (l00In n 0 1000002) ?_ | refine HFnF.mkAt (l00In n 0 1000002) ?_ | refine CallSF.mk (FnAt.fn0 (l00In n 0 1000002)) ?_
  simp (maxSteps := 1000000) -dsimp -implicitDefEqProofs only [go_sem, ↓reduceIte, keep94, ib94, mk94, Tryd.f94]
  all_goals rfl
def keep97 : List Nat := [0, 2]
def ib97 : List Nat := []
def mk97 : Marks := fun _ => ([], .nil, [])
theorem isNumber (n : Int) : Fn0 Tryd.prog 97 [I n] (.bool (decide (Num n))) := by
  refine fn0F 5 keep97 ib97 mk97 mix Tryd.func97 rfl (by kernel_rfl) (by simp) fun h => ?_
  simp (maxSteps := 1000000) -dsimp -implicitDefEqProofs only [go_sem, ↓reduceIte, keep97, ib97, mk97, Tryd.f97]
  first | refine HFnF.mk (within n 0 1000002) ?_ | refine CallSF.mk (within n 0 1000002) ?_ | refine HFnF.mkAt (within n 0 1000002) ?_ | refine CallSF.mk (FnAt.fn0 (within n 0 1000002)) ?_
  simp (maxSteps := 1000000) -dsimp -implicitDefEqProofs only [go_sem, ↓reduceIte, keep97, ib97, mk97, Tryd.f97]
  all_goals rfl
def keep64 : List Nat := [0, 2, 3, 7, 15]
def ib64 : List Nat := []
def mk64 : Marks := fun _ => ([], .nil, [])
set_option maxRecDepth 100000 in
theorem l01Numbers (l : List Int) : Fn0 Tryd.prog 64 [sls 1 (fun n => [I n]) l] (.bool (decide (Nums l))) := by
  refine fn0F 16 keep64 ib64 mk64 mix Tryd.func64 rfl (by kernel_rfl) (by simp) fun h => ?_
  simp (maxSteps := 1000000) -dsimp -implicitDefEqProofs only [go_sem, ↓reduceIte, keep64, ib64, mk64, Tryd.f64]
  refine loopF (keep := keep64) (ib := ib64) (mk := mk64) mix (by kernel_rfl) (fun k : Nat => [(0, sls 1 (fun n => [I n]) l), (3, I k)]) (fun _ => h) (fun k => k ≤ (l).length ∧ ∀ x ∈ (l).take k, Num x) (fun k => (l).length - k) 0 (by simp [SatL, tget, Heap.le_refl]) ?_
  intro k ⟨hk, hp⟩
  rcases Nat.lt_or_ge k (l).length with hlt | hge
  · have ea : (l)[k]? = some (l)[k] := List.getElem?_eq_getElem hlt
    simp (maxSteps := 1000000) -dsimp -implicitDefEqProofs only [go_sem, ↓reduceIte, keep64, ib64, mk64, Tryd.f64, ea]
    repeat' (with_reducible first | intro _ | refine And.intro ?_ ?_)
    all_goals try omega
    first | refine HFnF.mk (l01Number l[k]) ?_ | refine CallSF.mk (l01Number l[k]) ?_ | refine HFnF.mkAt (l01Number l[k]) ?_ | refine CallSF.mk (FnAt.fn0 (l01Number l[k])) ?_
    simp (maxSteps := 1000000) -dsimp -implicitDefEqProofs only [go_sem, ↓reduceIte, keep64, ib64, mk64, Tryd.f64]
    repeat' (with_reducible first | intro _ | refine And.intro ?_ ?_)
    · rename_i he
      exact (decide_eq_false fun e => he (e _ (List.getElem_mem hlt))).symm
    · rename_i he
      refine ⟨k + 1, ?_⟩
      repeat' (with_reducible refine And.intro ?_ ?_)
      all_goals try (rw [IntWalk.i64_in _ (by omega)]; first | rfl | omega)
      all_goals try omega
      all_goals try (repeat' (with_reducible first | exact Heap.le_refl _ | refine (le_upd (by first | assumption | exact And.right (by assumption) | exact upd_none.2 (by assumption))).2 ?_))
      exact all_step hlt hp he
  · have hk' : k = (l).length := by omega
    subst hk'
    rw [List.take_length] at hp
    simp (maxSteps := 1000000) -dsimp -implicitDefEqProofs only [go_sem, ↓reduceIte, keep64, ib64, mk64, Tryd.f64, Nat.lt_irrefl]
    intro _
    exact (decide_eq_true hp).symm
def keep108 : List Nat := [0, 1, 4, 5, 7, 8, 9, 16]
def ib108 : List Nat := []
def mk108 : Marks := fun _ => ([], .nil, [])
set_option maxRecDepth 100000 in
theorem idxF_Int64S (a : List Int) (p : Int → Bool) (g : FuncId) (cap : List HVal) {h0 : Heap} (hc : ∀ x ∈ a, FnAt Tryd.prog g ([(.int .i64 x)] ++ cap) (.bool (p x)) h0) : FnAt Tryd.prog 108 [(sls 1 (fun n => [I n]) a), .fn (.func g) [] cap] (I (idxOf p a)) h0 := by
  refine fnAtF 19 keep108 ib108 mk108 mix Tryd.func108 rfl (by kernel_rfl) (by simp) fun h hle => ?_
  simp -dsimp -implicitDefEqProofs only [go_sem, ↓reduceIte, keep108, ib108, mk108, Tryd.f108, Tryd.f108]
  intro _
  refine loopF (keep := keep108) (ib := ib108) (mk := mk108) mix (by kernel_rfl) (fun k : Nat => [(0, (sls 1 (fun n => [I n]) a)), (1, .fn (.func g) [] cap), (7, I a.length), (8, I k)]) (fun _ => h) (fun k => k ≤ a.length ∧ ∀ x ∈ a.take k, p x = false) (fun k => a.length - k) 0 (by simp [SatL, tget, Heap.le_refl]) ?_
  intro k ⟨hk, hp⟩
  rcases Nat.lt_or_ge k a.length with hlt | hge
  · have ea : a[k]? = some a[k] := List.getElem?_eq_getElem hlt
    simp -dsimp -implicitDefEqProofs only [go_sem, ↓reduceIte, keep108, ib108, mk108, Tryd.f108, Tryd.f108, ea]
    repeat' (with_reducible first | intro _ | refine And.intro ?_ ?_)
    all_goals try omega
    have hx := hc a[k] (List.getElem_mem hlt)
    refine HFnF.mkAt (hx.mono hle) ?_
    cases hpk : p a[k] with
    | true =>
      simp -dsimp -implicitDefEqProofs only [go_sem, ↓reduceIte, keep108, ib108, mk108, Tryd.f108, Tryd.f108]
      repeat' (with_reducible first | intro _ | refine And.intro ?_ ?_)
      all_goals first | exact (idxOf_some hlt hp hpk).symm | rfl | (rw [idxOf_some hlt hp hpk])
    | false =>
      simp -dsimp -implicitDefEqProofs only [go_sem, ↓reduceIte, keep108, ib108, mk108, Tryd.f108, Tryd.f108]
      refine ⟨k + 1, ?_⟩
      repeat' (with_reducible refine And.intro ?_ ?_)
      all_goals try (rw [IntWalk.i64_in _ (by omega)]; first | rfl | omega)
      all_goals try omega
      exact all_step (P := fun x => p x = false) hlt hp hpk
  · have hk' : k = a.length := by omega
    subst hk'
    rw [List.take_length] at hp
    simp -dsimp -implicitDefEqProofs only [go_sem, ↓reduceIte, keep108, ib108, mk108, Tryd.f108, Tryd.f108, Nat.lt_irrefl]
    all_goals first | exact (idxOf_none hp).symm | rw [idxOf_none hp]
def keep95 : List Nat := [0, 1, 4]
def ib95 : List Nat := []
def mk95 : Marks := fun _ => ([], .nil, [])
set_option maxRecDepth 100000 in
theorem hasF_Int64S (a : List Int) (p : Int → Bool) (g : FuncId) (cap : List HVal) {h0 : Heap} (hc : ∀ x ∈ a, FnAt Tryd.prog g ([(.int .i64 x)] ++ cap) (.bool (p x)) h0) : FnAt Tryd.prog 95 [(sls 1 (fun n => [I n]) a), .fn (.func g) [] cap] (.bool (a.any p)) h0 := by
  refine fnAtF 9 keep95 ib95 mk95 mix Tryd.func95 rfl (by kernel_rfl) (by simp) fun h hle => ?_
  simp -dsimp -implicitDefEqProofs only [go_sem, ↓reduceIte, keep95, ib95, mk95, Tryd.f95, Tryd.f95]
  refine HFnF.mkAt ((idxF_Int64S a p g cap hc).mono hle) ?_
  simp -dsimp -implicitDefEqProofs only [go_sem, ↓reduceIte, keep95, ib95, mk95, Tryd.f95, Tryd.f95]
  all_goals first | done | exact idxOf_nonneg | rw [idxOf_nonneg]

def keep96 : List Nat := [0, 2]
def ib96 : List Nat := []
def mk96 : Marks := fun _ => ([], .nil, [])
theorem areNumbers1 (n : Int) : Fn0 Tryd.prog 96 [I n] (.bool (!decide (Num n))) := by
  refine fn0F 6 keep96 ib96 mk96 mix Tryd.func96 rfl (by kernel_rfl) (by simp) fun h => ?_
  simp (maxSteps := 1000000) -dsimp -implicitDefEqProofs only [go_sem, ↓reduceIte, keep96, ib96, mk96, Tryd.f96]
  first | refine HFnF.mk (isNumber n) ?_ | refine CallSF.mk (isNumber n) ?_ | refine HFnF.mkAt (isNumber n) ?_ | refine CallSF.mk (FnAt.fn0 (isNumber n)) ?_
  simp (maxSteps := 1000000) -dsimp -implicitDefEqProofs only [go_sem, ↓reduceIte, keep96, ib96, mk96, Tryd.f96]
def keep67 : List Nat := [0, 1, 4]
def ib67 : List Nat := []
def mk67 : Marks := fun _ => ([], .nil, [])
theorem areNumbers (l : List Int) (c : Int) : Fn0 Tryd.prog 67 [sls 1 (fun n => [I n]) l, I c] (.bool (decide ((l.length : Int) = c ∧ Nums l))) := by
  refine fn0F 14 keep67 ib67 mk67 mix Tryd.func67 rfl (by kernel_rfl) (by simp) fun h => ?_
  simp (maxSteps := 1000000) -dsimp -implicitDefEqProofs only [go_sem, ↓reduceIte, keep67, ib67, mk67, Tryd.f67]
  repeat' (with_reducible first | intro _ | refine And.intro ?_ ?_)
  all_goals try (first | (simp [*]; done) | omega | grind)
  first | refine HFnF.mk (hasF_Int64S l (fun n => !decide (Num n)) 96 [] fun x _ => (areNumbers1 x).toAt) ?_ | refine CallSF.mk (hasF_Int64S l (fun n => !decide (Num n)) 96 [] fun x _ => (areNumbers1 x).toAt) ?_ | refine HFnF.mkAt (hasF_Int64S l (fun n => !decide (Num n)) 96 [] fun x _ => (areNumbers1 x).toAt) ?_ | refine CallSF.mk (FnAt.fn0 (hasF_Int64S l (fun n => !decide (Num n)) 96 [] fun x _ => (areNumbers1 x).toAt)) ?_
  simp (maxSteps := 1000000) -dsimp -implicitDefEqProofs only [go_sem, ↓reduceIte, keep67, ib67, mk67, Tryd.f67]
  rename_i e
  rw [any_not, decide_eq_decide]
  exact ⟨fun q => ⟨e, q⟩, fun q => q.2⟩
open Go.Proofs
set_option linter.unusedVariables false
set_option linter.unusedSimpArgs false
theorem itoa_lt {n : Int} (h0 : 0 ≤ n) (h : n < 10) : Go.Lib.itoa n = [UInt8.ofNat (48 + n).toNat] := by
  unfold Go.Lib.itoa
  rw [if_neg (by omega), Go.Lib.decDigits, dif_pos (by omega), show (48 + n).toNat = 48 + n.toNat from by omega]
theorem itoa_ge {n : Int} (h : 10 ≤ n) : Go.Lib.itoa n = Go.Lib.itoa (n / 10) ++ [UInt8.ofNat (48 + n % 10).toNat] := by
  unfold Go.Lib.itoa
  rw [if_neg (by omega), if_neg (by omega), Go.Lib.decDigits, dif_neg (by omega), show (48 + n % 10).toNat = 48 + n.toNat % 10 from by omega, show (n / 10).toNat = n.toNat / 10 from by omega]
theorem decDigits_len20 {u k : Nat} (h : u < 10 ^ k) (hk : 1 ≤ k) : (Go.Lib.decDigits u).length ≤ k := by
  induction k generalizing u with
  | zero => omega
  | succ k ih =>
    rw [Go.Lib.decDigits]
    split
    · simp
    · rename_i hu
      rcases Nat.eq_zero_or_pos k with e | e
      · subst e; simp at h; omega
      · have := ih (u := u / 10) (by rw [Nat.pow_succ] at h; omega) e
        simp; omega
theorem itoa_len64 {n : Int} (h0 : -9223372036854775808 ≤ n) (h1 : n ≤ 9223372036854775807) : (Go.Lib.itoa n).length ≤ 21 := by
  unfold Go.Lib.itoa
  split
  · have := decDigits_len20 (u := n.natAbs) (k := 20) (by omega) (by omega)
    simp; omega
  · have := decDigits_len20 (u := n.toNat) (k := 20) (by omega) (by omega)
    omega
theorem laid_tab {E : Env} {h : Heap} {w : World} (x : LaidIn E h w) : Go.Lib.TabIs Tryd.prog w "internal/strconv.uint64pow10" .u64 Go.Lib.pow10Tab :=
  (x.var (P := Tryd.prog) (name := "internal/strconv.uint64pow10") (by kernel_rfl) (List.mem_cons_self ..)).trans (congrArg some (by kernel_rfl))
theorem formatInt (n : Int) (h0 : -9223372036854775808 ≤ n) (h1 : n ≤ 9223372036854775807) : Fn0 Tryd.prog 87 [I n, I 10] (.str (Go.Lib.itoa n)) :=
  fn0_grown (by kernel_rfl) fun E h w vs R rl => by
    match vs, rl with
    | [v0, v1], rl =>
      obtain ⟨r0, r1, _⟩ := rl
      rw [rep_int r0, rep_int r1]
      refine (Go.Proofs.Tryd.strconv_FormatInt_10 n h0 h1 w (laid_tab R.laid)).mono fun e w' ⟨he, hw⟩ => ⟨_, he, fun E' h' w' => .str _ ?_, hw⟩
      have := itoa_len64 h0 h1
      simp only [maxLen]
      omega
def keep49 : List Nat := [0, 2]
def ib49 : List Nat := []
def mk49 : Marks := fun _ => ([], .nil, [])
theorem decimal (n : Int) (h : Num n) : Fn0 Tryd.prog 49 [I n] (.str (Go.Lib.itoa n)) := by
  have h0 := h.1
  have h1 := h.2
  refine fn0F 5 keep49 ib49 mk49 mix Tryd.func49 rfl (by kernel_rfl) (by simp) fun h => ?_
  simp (maxSteps := 1000000) -dsimp -implicitDefEqProofs only [go_sem, ↓reduceIte, keep49, ib49, mk49, Tryd.f49]
  first | refine HFnF.mk (formatInt n (by omega) (by omega)) ?_ | refine CallSF.mk (formatInt n (by omega) (by omega)) ?_ | refine HFnF.mkAt (formatInt n (by omega) (by omega)) ?_ | refine CallSF.mk (FnAt.fn0 (formatInt n (by omega) (by omega))) ?_
  simp (maxSteps := 1000000) -dsimp -implicitDefEqProofs only [go_sem, ↓reduceIte, keep49, ib49, mk49, Tryd.f49]
def keep75 : List Nat := [0, 2, 4]
def ib75 : List Nat := [8, 17]
def mk75 : Marks := fun id => match id with | 3 => ([], (.op 0 (.op 1 (.op 2 (.op 3 (.op 4 (.op 5 (.op 6 (.op 7 (.op 8 (.op 9 (.op 10 .nil))))))))))), []) | _ => ([], .nil, [])
set_option maxRecDepth 100000 in
theorem Decimal (m : Nat) : ∀ n : Int, 0 ≤ n → n < m → n ≤ 1000002 → Fn0 Tryd.prog 75 [I n] (.str (Go.Lib.itoa n)) := by
  induction m with
  | zero => intro n a b; omega
  | succ m ih =>
  intro n h0 hm hn
  refine fn0F 20 keep75 ib75 mk75 mix Tryd.func75 rfl (by kernel_rfl) (by simp) fun h => ?_
  simp (maxSteps := 1000000) -dsimp -implicitDefEqProofs only [go_sem, ↓reduceIte, keep75, ib75, mk75, Tryd.f75]
  repeat' (with_reducible first | intro _ | refine And.intro ?_ ?_)
  all_goals try omega
  · rw [itoa_lt h0 (by assumption), IntWalk.i64_in (48 + n) (by omega), IntWalk.u8_in (48 + n) (by omega)]
  · rw [Int.tdiv_eq_ediv_of_nonneg (by omega), IntWalk.i64_in (n / 10) (by omega)]
    first | refine HFnF.mk (ih (n / 10) (by omega) (by omega) (by omega)) ?_ | refine CallSF.mk (ih (n / 10) (by omega) (by omega) (by omega)) ?_ | refine HFnF.mkAt (ih (n / 10) (by omega) (by omega) (by omega)) ?_ | refine CallSF.mk (FnAt.fn0 (ih (n / 10) (by omega) (by omega) (by omega))) ?_
    simp (maxSteps := 1000000) -dsimp -implicitDefEqProofs only [go_sem, ↓reduceIte, keep75, ib75, mk75, Tryd.f75]
    repeat' (with_reducible first | intro _ | refine And.intro ?_ ?_)
    all_goals try (first | omega | decide)
    · have := itoa_len64 (n := n / 10) (by omega) (by omega)
      omega
    · rw [itoa_ge (n := n) (by omega), Int.tmod_eq_emod_of_nonneg (by omega), IntWalk.i64_in (48 + n % 10) (by omega), IntWalk.u8_in (48 + n % 10) (by omega)]
theorem rep_sl {E : Env} {h : Heap} {w : World} {sz : Nat} {es : List (List HVal)} {t : Bool} {v : Value} (hr : Rep E h w (.sl sz es t) v) :
    (es = [] ∧ ∃ a cap, v = .slice a 0 cap) ∨ ∃ b o cap, v = .slice (some ⟨b, o, none⟩) es.length cap ∧ b < w.heap.size ∧ es.length ≤ cap ∧ ∀ i j x, at2 es i j = some x → ∃ c, w.cell? ⟨b, o + i * sz + j, none⟩ = some c ∧ Rep E h w x c := by
  cases hr with
  | sl0 _ _ a cap => exact .inl ⟨rfl, a, cap, rfl⟩
  | sl _ _ _ b o cap cv hi hcap hmax ht hs hc h1 hr => exact .inr ⟨b, o, cap, rfl, hi.1, hcap, fun i j x q => ⟨_, hc i j x q, hr i j x q⟩⟩
theorem joinL (xs : List (List UInt8)) (sep : List UInt8) (hN : xs.length ≤ 140737488355328) (hlen : (Go.Lib.join xs sep).length ≤ 140737488355328) : Fn0 Tryd.prog 98 [sls 1 (fun s => [.str s]) xs, .str sep] (.str (Go.Lib.join xs sep)) :=
  fn0_below (by kernel_rfl) fun E h w vs R rl => by
    match vs, rl with
    | [v0, v1], rl =>
      obtain ⟨r0, r1, _⟩ := rl
      obtain ⟨rfl, hl⟩ := rep_str r1
      have hm : (xs.map fun s : List UInt8 => (⟨s.toArray⟩ : ByteArray)).map (fun b => b.data.toList) = xs := by simp [List.map_map, Function.comp_def]
      have hr : ∀ E' h' w', Rep E' h' w' (.str (Go.Lib.join xs sep)) (.string ⟨(Go.Lib.join xs sep).toArray⟩) := fun _ _ _ => .str _ (by simp only [maxLen]; omega)
      rcases rep_sl r0 with ⟨e, a, cap, rfl⟩ | ⟨b, o, cap, rfl, hb, hcap, hcs⟩
      · have e : xs = [] := by simpa using e
        subst e
        exact (Go.Proofs.Tryd.strings_Join_none a cap ⟨sep.toArray⟩ w).mono fun e w' ⟨he, hw⟩ => ⟨_, he, hr, hw ▸ Go.RowKit.Below.refl _ _⟩
      · rw [List.length_map] at hcap ⊢
        have := Go.Proofs.Tryd.strings_Join b o cap (xs.map fun s : List UInt8 => (⟨s.toArray⟩ : ByteArray)) ⟨sep.toArray⟩ w (fun j x hx => by
          simp only [List.getElem?_map, Option.map_eq_some_iff] at hx
          obtain ⟨s, hs, rfl⟩ := hx
          obtain ⟨c, h1, h2⟩ := hcs j 0 (.str s) (by simp [at2, hs])
          rw [(rep_str h2).1] at h1
          simpa using h1) hb (by simpa using hN) (by simpa using hcap) (by rw [hm]; exact hlen)
        rw [hm, List.length_map] at this
        exact this.mono fun e w' ⟨he, hw⟩ => ⟨_, he, hr, hw⟩
theorem itoa_num {n : Int} (h : Num n) : (Go.Lib.itoa n).length ≤ 21 := itoa_len64 (by have := h.1; omega) (by have := h.2; omega)
/-- The numbers behind a word, a blank ahead of each. -/
def wordsL : List Int → List UInt8
  | [] => []
  | n :: l => 32 :: Go.Lib.itoa n ++ wordsL l
theorem wordsL_app (l m : List Int) : wordsL (l ++ m) = wordsL l ++ wordsL m := by
  induction l with
  | nil => rfl
  | cons a l ih => simp [wordsL, ih]
theorem wordsL_join : ∀ l : List Int, l ≠ [] → 32 :: Go.Lib.join (l.map Go.Lib.itoa) [32] = wordsL l
  | [], h => (h rfl).elim
  | [n], _ => by simp [wordsL, Go.Lib.join_one]
  | n :: m :: l, _ => by
    have := wordsL_join (m :: l) (by simp)
    rw [wordsL, ← this]
    simp [Go.Lib.join, List.intercalate]
theorem wordsL_len : ∀ l : List Int, (∀ n ∈ l, Num n) → (wordsL l).length ≤ 22 * l.length
  | [], _ => by simp [wordsL]
  | n :: l, h => by
    have := wordsL_len l fun n q => h n (List.mem_cons_of_mem _ q)
    have := itoa_num (h n (List.mem_cons_self ..))
    simp [wordsL]; omega
theorem joinI_len (l : List Int) (h : ∀ n ∈ l, Num n) : (Go.Lib.join (l.map Go.Lib.itoa) [32]).length ≤ 22 * l.length := by
  by_cases e : l = []
  · subst e; simp [Go.Lib.join_nil]
  · have := wordsL_len l h
    rw [← wordsL_join l e] at this
    simp at this ⊢; omega
open Go.Proofs
set_option linter.unusedVariables false
set_option linter.unusedSimpArgs false
def keep65 : List Nat := [0, 1, 4, 5, 9]
def ib65 : List Nat := []
def mk65 : Marks := fun _ => ([], .nil, [])
set_option maxRecDepth 100000 in
theorem l08Words (word : List UInt8) (l : List Int) (hw : word.length ≤ 1000) (hl : l.length ≤ 1000000) (hn : ∀ n ∈ l, Num n) : Fn0 Tryd.prog 65 [.str word, sls 1 (fun n => [I n]) l] (.str (word ++ wordsL l)) := by
  refine fn0F 21 keep65 ib65 mk65 mix Tryd.func65 rfl (by kernel_rfl) (by simp) fun h => ?_
  simp (maxSteps := 1000000) -dsimp -implicitDefEqProofs only [go_sem, ↓reduceIte, keep65, ib65, mk65, Tryd.f65]
  refine loopF (keep := keep65) (ib := ib65) (mk := mk65) mix (by kernel_rfl) (fun k : Nat => [(0, .str (word ++ wordsL (l.take k))), (1, sls 1 (fun n => [I n]) l), (5, I k)]) (fun _ => h) (fun k => k ≤ l.length) (fun k => l.length - k) 0 (by simp [SatL, tget, Heap.le_refl, wordsL]) ?_
  intro k hk
  rcases Nat.lt_or_ge k l.length with hlt | hge
  · have ea : l[k]? = some l[k] := List.getElem?_eq_getElem hlt
    have hnk := hn _ (List.getElem_mem hlt)
    have hlen := itoa_num hnk
    have hlw := wordsL_len (l.take k) fun n q => hn n (List.mem_of_mem_take q)
    rw [List.length_take] at hlw
    simp (maxSteps := 1000000) -dsimp -implicitDefEqProofs only [go_sem, ↓reduceIte, keep65, ib65, mk65, Tryd.f65, ea]
    repeat' (with_reducible first | intro _ | refine And.intro ?_ ?_)
    all_goals try omega
    first | refine HFnF.mk (Decimal 1000003 l[k] hnk.1 (by have := hnk.2; omega) hnk.2) ?_ | refine CallSF.mk (Decimal 1000003 l[k] hnk.1 (by have := hnk.2; omega) hnk.2) ?_ | refine HFnF.mkAt (Decimal 1000003 l[k] hnk.1 (by have := hnk.2; omega) hnk.2) ?_ | refine CallSF.mk (FnAt.fn0 (Decimal 1000003 l[k] hnk.1 (by have := hnk.2; omega) hnk.2)) ?_
    simp (maxSteps := 1000000) -dsimp -implicitDefEqProofs only [go_sem, ↓reduceIte, keep65, ib65, mk65, Tryd.f65]
    repeat' (with_reducible first | intro _ | refine And.intro ?_ ?_)
    all_goals try omega
    · simp only [List.length_append, List.length_cons]; omega
    · refine ⟨k + 1, ⟨?_, by rw [IntWalk.i64_in _ (by omega)]; rfl⟩, by omega, by omega⟩
      rw [List.take_succ_eq_append_getElem hlt, wordsL_app]
      simp [wordsL]
  · have hk' : k = l.length := by omega
    subst hk'
    rw [List.take_length]
    simp (maxSteps := 1000000) -dsimp -implicitDefEqProofs only [go_sem, ↓reduceIte, keep65, ib65, mk65, Tryd.f65, Nat.lt_irrefl]
def keep68 : List Nat := [0, 1, 4, 5, 7, 9, 10, 11, 12]
def ib68 : List Nat := [8, 18]
def mk68 : Marks := fun _ => ([], .nil, [])
set_option maxRecDepth 100000 in
theorem joined (l : List Int) (hl : l.length ≤ 1000000) (hn : ∀ n ∈ l, Num n) : Fn0 Tryd.prog 68 [sls 1 (fun n => [I n]) l, .str [32]] (.str (Go.Lib.join (l.map Go.Lib.itoa) [32])) := by
  refine fn0F 24 keep68 ib68 mk68 mix Tryd.func68 rfl (by kernel_rfl) (by simp) fun h => ?_
  simp (maxSteps := 1000000) -dsimp -implicitDefEqProofs only [go_sem, ↓reduceIte, keep68, ib68, mk68, Tryd.f68]
  repeat' (with_reducible first | intro _ | refine And.intro ?_ ?_)
  all_goals try (first | omega | decide)
  refine loopF (keep := keep68) (ib := ib68) (mk := mk68) mix (by kernel_rfl) (fun x : Nat × Option Nat => [(1, .str [32]), (5, oval 1 (l.take x.1).length x.2), (9, sls 1 (fun n => [I n]) l), (10, I l.length), (11, I x.1)]) (fun x => oheap h (.row 1 (((l.take x.1).map fun n => [.str (Go.Lib.itoa n)]).map (List.map .v))) x.2) (fun x => x.1 ≤ l.length ∧ oside h (l.take x.1) x.2) (fun x => l.length - x.1) (0, none) (by simp [SatL, tget, Heap.le_refl, oval, oheap, oside]) ?_
  rintro ⟨k, o⟩ ⟨hk, ho⟩
  simp only at hk ho ⊢
  rcases Nat.lt_or_ge k l.length with hlt | hge
  · have ea : l[k]? = some l[k] := List.getElem?_eq_getElem hlt
    have hnk := hn _ (List.getElem_mem hlt)
    have hy : l.take (k + 1) = l.take k ++ [l[k]] := List.take_succ_eq_append_getElem hlt
    have hlk : (l.take k).length ≤ l.length := by rw [List.length_take]; omega
    cases o with
    | none =>
      rw [oside_none] at ho
      rw [ho] at hy ⊢
      simp (maxSteps := 1000000) -dsimp -implicitDefEqProofs only [go_sem, ↓reduceIte, keep68, ib68, mk68, Tryd.f68, oval_none, oheap_none, ea]
      repeat' (with_reducible first | intro _ | refine And.intro ?_ ?_)
      all_goals try omega
      first | refine HFnF.mk (decimal l[k] hnk) ?_ | refine CallSF.mk (decimal l[k] hnk) ?_ | refine HFnF.mkAt (decimal l[k] hnk) ?_ | refine CallSF.mk (FnAt.fn0 (decimal l[k] hnk)) ?_
      simp (maxSteps := 1000000) -dsimp -implicitDefEqProofs only [go_sem, ↓reduceIte, keep68, ib68, mk68, Tryd.f68]
      repeat' (with_reducible first | intro _ | refine And.intro ?_ ?_)
      all_goals try (first | omega | decide)
      rename_i n hn
      refine ⟨(k + 1, some n), ?_⟩
      simp only [hy]
      refine ⟨⟨rfl, ?_⟩, Heap.le_refl _, ⟨by omega, hn⟩, by omega⟩
      rw [IntWalk.i64_in _ (by omega)]; rfl
    | some n =>
      rw [oside_some] at ho
      simp (maxSteps := 1000000) -dsimp -implicitDefEqProofs only [go_sem, ↓reduceIte, keep68, ib68, mk68, Tryd.f68, oval_some, oheap_some, ea]
      repeat' (with_reducible first | intro _ | refine And.intro ?_ ?_)
      all_goals try omega
      first | refine HFnF.mk (decimal l[k] hnk) ?_ | refine CallSF.mk (decimal l[k] hnk) ?_ | refine HFnF.mkAt (decimal l[k] hnk) ?_ | refine CallSF.mk (FnAt.fn0 (decimal l[k] hnk)) ?_
      simp (maxSteps := 1000000) -dsimp -implicitDefEqProofs only [go_sem, ↓reduceIte, keep68, ib68, mk68, Tryd.f68]
      repeat' (with_reducible first | intro _ | refine And.intro ?_ ?_)
      all_goals try (first | omega | decide | exact Nat.le_refl _)
      rename_i b hb
      refine ⟨(k + 1, some b), ?_⟩
      simp only [hy, oheap_some, oval_some, oside_some]
      refine ⟨⟨by rw [List.length_append]; rfl, ?_⟩, ?_, ⟨by omega, hb.2⟩, by omega⟩
      · rw [IntWalk.i64_in _ (by omega)]; rfl
      · rw [← grow_row]; exact le_app ho
  · have hk' : k = l.length := by omega
    subst hk'
    rw [List.take_length] at ho ⊢
    simp (maxSteps := 1000000) -dsimp -implicitDefEqProofs only [go_sem, ↓reduceIte, keep68, ib68, mk68, Tryd.f68, Nat.lt_irrefl]
    have hj := joinL (l.map Go.Lib.itoa) [32] (by simp; omega) (by have := joinI_len l hn; omega)
    rw [show sls 1 (fun s : List UInt8 => [HVal.str s]) (l.map Go.Lib.itoa) = sls 1 (fun n => [HVal.str (Go.Lib.itoa n)]) l from by simp [sls, Function.comp_def]] at hj
    obtain ⟨y, h1, h2, h3⟩ := grown (c := fun n => HVal.str (Go.Lib.itoa n)) (sz := 1) ho
    rw [← h2]
    refine HFnF.lend0 hj (ViewL.cons (View.ovD y (OS.dat (c := fun n => [HVal.str (Go.Lib.itoa n)]) (fun _ _ q => oP_dat q) h1) h3.owns) (ViewL.cons (View.same _ _) ViewL.nil)) rfl ?_
    simp (maxSteps := 1000000) -dsimp -implicitDefEqProofs only [go_sem, ↓reduceIte, keep68, ib68, mk68, Tryd.f68]
    exact h3.le
def keep32 : List Nat := [0, 1, 4, 7]
def ib32 : List Nat := []
def mk32 : Marks := fun _ => ([], .nil, [])
set_option maxRecDepth 100000 in
theorem wordsOf (word : List UInt8) (l : List Int) (hw : word.length ≤ 1000) (hl : l.length ≤ 1000000) (hn : ∀ n ∈ l, Num n) : Fn0 Tryd.prog 32 [.str word, sls 1 (fun n => [I n]) l] (.str (word ++ wordsL l)) := by
  refine fn0F 14 keep32 ib32 mk32 mix Tryd.func32 rfl (by kernel_rfl) (by simp) fun h => ?_
  simp (maxSteps := 1000000) -dsimp -implicitDefEqProofs only [go_sem, ↓reduceIte, keep32, ib32, mk32, Tryd.f32]
  have hj := joinI_len l hn
  repeat' (with_reducible first | intro _ | refine And.intro ?_ ?_)
  all_goals try (first | omega | decide)
  · rename_i e
    have e : l = [] := List.length_eq_zero_iff.1 (by omega)
    subst e
    simp [wordsL]
  · rename_i e
    first | refine HFnF.mk (joined l hl hn) ?_ | refine CallSF.mk (joined l hl hn) ?_ | refine HFnF.mkAt (joined l hl hn) ?_ | refine CallSF.mk (FnAt.fn0 (joined l hl hn)) ?_
    simp (maxSteps := 1000000) -dsimp -implicitDefEqProofs only [go_sem, ↓reduceIte, keep32, ib32, mk32, Tryd.f32]
    repeat' (with_reducible first | intro _ | refine And.intro ?_ ?_)
    all_goals try (first | omega | decide)
    · simp only [List.length_append, List.length_cons, List.length_nil]; omega
    · rw [← wordsL_join l (by intro q; subst q; exact e rfl)]
      simp
open Go.Proofs
set_option linter.unusedVariables false
set_option linter.unusedSimpArgs false
def keep55 : List Nat := [0, 2, 3, 4, 5, 7, 9, 11]
def ib55 : List Nat := []
def mk55 : Marks := fun _ => ([], .nil, [])
theorem l08Uses (k : Int) : Fn0 Tryd.prog 55 [I k] (.tup [I (if k = 1 then 2 else if k = 8 then 0 else if k = 9 then 0 else 1), .bool (decide (k = 9 ∨ k = 10))]) := by
  refine fn0F 13 keep55 ib55 mk55 mix Tryd.func55 rfl (by kernel_rfl) (by simp) fun h => ?_
  simp (maxSteps := 1000000) -dsimp -implicitDefEqProofs only [go_sem, ↓reduceIte, keep55, ib55, mk55, Tryd.f55]
  repeat' (with_reducible first | intro _ | refine And.intro ?_ ?_)
  all_goals simp_all
def keep31 : List Nat := [0, 2, 3, 4]
def ib31 : List Nat := []
def mk31 : Marks := fun _ => ([], .nil, [])
theorem isMentioned (k : Int) : Fn0 Tryd.prog 31 [I k] (.tup [.bool (decide (k ≠ 8 ∧ k ≠ 9)), .bool (decide (k = 1)), .bool (decide (k = 9 ∨ k = 10))]) := by
  refine fn0F 19 keep31 ib31 mk31 mix Tryd.func31 rfl (by kernel_rfl) (by simp) fun h => ?_
  simp (maxSteps := 1000000) -dsimp -implicitDefEqProofs only [go_sem, ↓reduceIte, keep31, ib31, mk31, Tryd.f31]
  repeat' (with_reducible first | intro _ | refine And.intro ?_ ?_)
  all_goals simp_all
def actWord (k : Int) : List UInt8 := ([[103, 105, 118, 101], [119, 111, 114, 107], [100, 101, 108, 105, 118, 101, 114], [99, 111, 112, 121], [100, 114, 111, 112], [100, 111, 119, 110], [99, 114, 97, 115, 104], [115, 121, 110, 99], [112, 111, 105, 110, 116], [116, 101, 114, 109]] : List (List UInt8)).getD (k - 1).toNat []
theorem actWord_at {k : Int} (h1 : 1 ≤ k) (h2 : k ≤ 10) : ([[HVal.str [103, 105, 118, 101]], [HVal.str [119, 111, 114, 107]], [HVal.str [100, 101, 108, 105, 118, 101, 114]], [HVal.str [99, 111, 112, 121]], [HVal.str [100, 114, 111, 112]], [HVal.str [100, 111, 119, 110]], [HVal.str [99, 114, 97, 115, 104]], [HVal.str [115, 121, 110, 99]], [HVal.str [112, 111, 105, 110, 116]], [HVal.str [116, 101, 114, 109]]] : List (List HVal))[(IntKind.i64.wrap (k - 1)).toNat]? = some [HVal.str (actWord k)] := by
  rw [IntWalk.i64_in _ (by omega)]
  rcases (by omega : k = 1 ∨ k = 2 ∨ k = 3 ∨ k = 4 ∨ k = 5 ∨ k = 6 ∨ k = 7 ∨ k = 8 ∨ k = 9 ∨ k = 10) with rfl | rfl | rfl | rfl | rfl | rfl | rfl | rfl | rfl | rfl
  all_goals rfl
theorem actWord_len (k : Int) : (actWord k).length ≤ 7 := by
  unfold actWord
  generalize (k - 1).toNat = n
  match n with
  | 0 | 1 | 2 | 3 | 4 | 5 | 6 | 7 | 8 | 9 => decide
  | n + 10 => simp
def keep56 : List Nat := [0, 2, 5]
def ib56 : List Nat := [6]
def mk56 : Marks := fun _ => ([], .nil, [])
theorem l08Word (k : Int) (h1 : 1 ≤ k) (h2 : k ≤ 10) : Fn0 Tryd.prog 56 [I k] (.str (actWord k)) := by
  refine fn0F 11 keep56 ib56 mk56 mix Tryd.func56 rfl (by kernel_rfl) (by simp) fun h => ?_
  simp (maxSteps := 1000000) -dsimp -implicitDefEqProofs only [go_sem, ↓reduceIte, keep56, ib56, mk56, Tryd.f56]
  first | refine HFnF.mk (l00In k 1 10) ?_ | refine CallSF.mk (l00In k 1 10) ?_ | refine HFnF.mkAt (l00In k 1 10) ?_ | refine CallSF.mk (FnAt.fn0 (l00In k 1 10)) ?_
  simp (maxSteps := 1000000) -dsimp -implicitDefEqProofs only [go_sem, ↓reduceIte, keep56, ib56, mk56, Tryd.f56]
  repeat' (with_reducible first | intro _ | refine And.intro ?_ ?_)
  all_goals try (first | omega | decide)
  all_goals try (rw [IntWalk.i64_in _ (by omega)]; omega)
  simp (maxSteps := 1000000) -dsimp -implicitDefEqProofs only [go_sem, ↓reduceIte, keep56, ib56, mk56, Tryd.f56, actWord_at h1 h2]
def keep33 : List Nat := [0]
def ib33 : List Nat := [1]
def mk33 : Marks := fun _ => ([], .nil, [])
theorem actWords : Fn0 Tryd.prog 33 [] (.sl 1 [[HVal.str [103, 105, 118, 101]], [HVal.str [119, 111, 114, 107]], [HVal.str [100, 101, 108, 105, 118, 101, 114]], [HVal.str [99, 111, 112, 121]], [HVal.str [100, 114, 111, 112]], [HVal.str [100, 111, 119, 110]], [HVal.str [99, 114, 97, 115, 104]], [HVal.str [115, 121, 110, 99]], [HVal.str [112, 111, 105, 110, 116]], [HVal.str [116, 101, 114, 109]]] true) := by
  refine fn0F 2 keep33 ib33 mk33 mix Tryd.func33 rfl (by kernel_rfl) (by simp) fun h => ?_
  simp (maxSteps := 1000000) -dsimp -implicitDefEqProofs only [go_sem, ↓reduceIte, keep33, ib33, mk33, Tryd.f33]
  repeat' (with_reducible first | intro _ | refine And.intro ?_ ?_)
  all_goals try (first | omega | decide)
open Go.Proofs
set_option linter.unusedVariables false
set_option linter.unusedSimpArgs false
structure DAct.ok (a : DAct) : Prop where
  kind : 1 ≤ a.fKind ∧ a.fKind ≤ 10
  hA : 0 ≤ a.fA ∧ a.fA ≤ 6000
  hB : 0 ≤ a.fB ∧ a.fB ≤ 6000
  num : Nums a.fNumbers
  len : a.fNumbers.length ≤ 12
  first : a.fKind = 8 ∨ a.fKind = 9 → a.fA = 0
  second : a.fKind ≠ 1 → a.fB = 0
  numbers : ¬ (a.fKind = 9 ∨ a.fKind = 10) → a.fNumbers.length = 0
noncomputable instance (a : DAct) : Decidable a.ok := Classical.propDecidable _
def keep27 : List Nat := [0, 2, 3, 4, 34, 66]
def ib27 : List Nat := []
def mk27 : Marks := fun _ => ([], .nil, [])
set_option maxRecDepth 100000 in
theorem l08Act (a : DAct) (hs : a.s ≤ 1048576) : Fn0 Tryd.prog 27 [.ip 4 [a.c] 0 0] (.bool (decide a.ok)) := by
  have hl := a.s_eq
  simp only [DAct.c_eq]
  refine fn0F 80 keep27 ib27 mk27 mix Tryd.func27 rfl (by kernel_rfl) (by simp) fun h => ?_
  simp (maxSteps := 1000000) -dsimp -implicitDefEqProofs only [go_sem, ↓reduceIte, keep27, ib27, mk27, Tryd.f27]
  first | refine HFnF.mk (l08Uses a.fKind) ?_ | refine CallSF.mk (l08Uses a.fKind) ?_ | refine HFnF.mkAt (l08Uses a.fKind) ?_ | refine CallSF.mk (FnAt.fn0 (l08Uses a.fKind)) ?_
  simp (maxSteps := 1000000) -dsimp -implicitDefEqProofs only [go_sem, ↓reduceIte, keep27, ib27, mk27, Tryd.f27]
  first | refine HFnF.mk (l00In a.fKind 1 10) ?_ | refine CallSF.mk (l00In a.fKind 1 10) ?_ | refine HFnF.mkAt (l00In a.fKind 1 10) ?_ | refine CallSF.mk (FnAt.fn0 (l00In a.fKind 1 10)) ?_
  simp (maxSteps := 1000000) -dsimp -implicitDefEqProofs only [go_sem, ↓reduceIte, keep27, ib27, mk27, Tryd.f27]
  repeat' (with_reducible first | intro _ | refine And.intro ?_ ?_)
  rotate_left
  · (refine (decide_eq_false fun q => ?_).symm; have q1 := q.kind; have q2 := q.hA; have q3 := q.hB; have q4 := q.len; have q5 := q.first; have q6 := q.second; have q7 := q.numbers; first | omega | (simp_all; done) | (simp_all; omega))
  first | refine HFnF.mk (l00In a.fA 0 6000) ?_ | refine CallSF.mk (l00In a.fA 0 6000) ?_ | refine HFnF.mkAt (l00In a.fA 0 6000) ?_ | refine CallSF.mk (FnAt.fn0 (l00In a.fA 0 6000)) ?_
  simp (maxSteps := 1000000) -dsimp -implicitDefEqProofs only [go_sem, ↓reduceIte, keep27, ib27, mk27, Tryd.f27]
  repeat' (with_reducible first | intro _ | refine And.intro ?_ ?_)
  rotate_left
  · (refine (decide_eq_false fun q => ?_).symm; have q1 := q.kind; have q2 := q.hA; have q3 := q.hB; have q4 := q.len; have q5 := q.first; have q6 := q.second; have q7 := q.numbers; first | omega | (simp_all; done) | (simp_all; omega))
  first | refine HFnF.mk (l00In a.fB 0 6000) ?_ | refine CallSF.mk (l00In a.fB 0 6000) ?_ | refine HFnF.mkAt (l00In a.fB 0 6000) ?_ | refine CallSF.mk (FnAt.fn0 (l00In a.fB 0 6000)) ?_
  simp (maxSteps := 1000000) -dsimp -implicitDefEqProofs only [go_sem, ↓reduceIte, keep27, ib27, mk27, Tryd.f27]
  repeat' (with_reducible first | intro _ | refine And.intro ?_ ?_)
  all_goals try (refine (decide_eq_false fun q => ?_).symm; have q1 := q.kind; have q2 := q.hA; have q3 := q.hB; have q4 := q.len; have q5 := q.first; have q6 := q.second; have q7 := q.numbers; first | omega | (simp_all; done) | (simp_all; omega))
  all_goals
    first | refine HFnF.mk (l01Numbers a.fNumbers) ?_ | refine CallSF.mk (l01Numbers a.fNumbers) ?_ | refine HFnF.mkAt (l01Numbers a.fNumbers) ?_ | refine CallSF.mk (FnAt.fn0 (l01Numbers a.fNumbers)) ?_
    simp (maxSteps := 1000000) -dsimp -implicitDefEqProofs only [go_sem, ↓reduceIte, keep27, ib27, mk27, Tryd.f27]
    by_cases hn : Nums a.fNumbers
    · rw [decide_eq_true hn]
      refine (decide_eq_true ?_).symm
      constructor <;> first | assumption | omega | (simp_all; done) | (simp_all; omega)
    · rw [decide_eq_false hn]
      exact (decide_eq_false fun q : a.ok => hn q.num).symm
def keep30 : List Nat := [0, 1, 2, 3, 4, 5, 36]
def ib30 : List Nat := [1]
def mk30 : Marks := fun _ => ([], .nil, [])
set_option maxRecDepth 100000 in
theorem isAct (a : DAct) (hs : a.s ≤ 1048576) : Fn0 Tryd.prog 30 [.agg a.c] (.bool (decide a.ok)) := by
  have hl := a.s_eq
  simp only [DAct.c_eq]
  refine fn0F 67 keep30 ib30 mk30 mix Tryd.func30 rfl (by kernel_rfl) (by simp) fun h => ?_
  simp (maxSteps := 1000000) -dsimp -implicitDefEqProofs only [go_sem, ↓reduceIte, keep30, ib30, mk30, Tryd.f30]
  first | refine HFnF.mk (within a.fKind 1 10) ?_ | refine CallSF.mk (within a.fKind 1 10) ?_ | refine HFnF.mkAt (within a.fKind 1 10) ?_ | refine CallSF.mk (FnAt.fn0 (within a.fKind 1 10)) ?_
  simp (maxSteps := 1000000) -dsimp -implicitDefEqProofs only [go_sem, ↓reduceIte, keep30, ib30, mk30, Tryd.f30]
  repeat' (with_reducible first | intro _ | refine And.intro ?_ ?_)
  rotate_left
  · (refine (decide_eq_false fun q => ?_).symm; have q1 := q.kind; have q2 := q.hA; have q3 := q.hB; have q4 := q.len; have q5 := q.first; have q6 := q.second; have q7 := q.numbers; first | omega | (simp_all; done) | (simp_all; omega))
  first | refine HFnF.mk (within a.fA 0 6000) ?_ | refine CallSF.mk (within a.fA 0 6000) ?_ | refine HFnF.mkAt (within a.fA 0 6000) ?_ | refine CallSF.mk (FnAt.fn0 (within a.fA 0 6000)) ?_
  simp (maxSteps := 1000000) -dsimp -implicitDefEqProofs only [go_sem, ↓reduceIte, keep30, ib30, mk30, Tryd.f30]
  repeat' (with_reducible first | intro _ | refine And.intro ?_ ?_)
  rotate_left
  · (refine (decide_eq_false fun q => ?_).symm; have q1 := q.kind; have q2 := q.hA; have q3 := q.hB; have q4 := q.len; have q5 := q.first; have q6 := q.second; have q7 := q.numbers; first | omega | (simp_all; done) | (simp_all; omega))
  first | refine HFnF.mk (within a.fB 0 6000) ?_ | refine CallSF.mk (within a.fB 0 6000) ?_ | refine HFnF.mkAt (within a.fB 0 6000) ?_ | refine CallSF.mk (FnAt.fn0 (within a.fB 0 6000)) ?_
  simp (maxSteps := 1000000) -dsimp -implicitDefEqProofs only [go_sem, ↓reduceIte, keep30, ib30, mk30, Tryd.f30]
  repeat' (with_reducible first | intro _ | refine And.intro ?_ ?_)
  all_goals try (refine (decide_eq_false fun q => ?_).symm; have q1 := q.kind; have q2 := q.hA; have q3 := q.hB; have q4 := q.len; have q5 := q.first; have q6 := q.second; have q7 := q.numbers; first | omega | (simp_all; done) | (simp_all; omega))
  first | refine HFnF.mk (areNumbers a.fNumbers a.fNumbers.length) ?_ | refine CallSF.mk (areNumbers a.fNumbers a.fNumbers.length) ?_ | refine HFnF.mkAt (areNumbers a.fNumbers a.fNumbers.length) ?_ | refine CallSF.mk (FnAt.fn0 (areNumbers a.fNumbers a.fNumbers.length)) ?_
  simp (maxSteps := 1000000) -dsimp -implicitDefEqProofs only [go_sem, ↓reduceIte, keep30, ib30, mk30, Tryd.f30]
  by_cases hn : Nums a.fNumbers
  rotate_left
  · simp only [hn, and_false, decide_false]
    simp (maxSteps := 1000000) -dsimp -implicitDefEqProofs only [go_sem, ↓reduceIte, keep30, ib30, mk30, Tryd.f30]
    exact (decide_eq_false fun q => hn q.num).symm
  simp only [hn, and_true, decide_true]
  simp (maxSteps := 1000000) -dsimp -implicitDefEqProofs only [go_sem, ↓reduceIte, keep30, ib30, mk30, Tryd.f30]
  first | refine HFnF.mk (isMentioned a.fKind) ?_ | refine CallSF.mk (isMentioned a.fKind) ?_ | refine HFnF.mkAt (isMentioned a.fKind) ?_ | refine CallSF.mk (FnAt.fn0 (isMentioned a.fKind)) ?_
  simp (maxSteps := 1000000) -dsimp -implicitDefEqProofs only [go_sem, ↓reduceIte, keep30, ib30, mk30, Tryd.f30]
  repeat' (with_reducible first | intro _ | refine And.intro ?_ ?_)
  all_goals try (refine (decide_eq_false fun q => ?_).symm; have q1 := q.kind; have q2 := q.hA; have q3 := q.hB; have q4 := q.len; have q5 := q.first; have q6 := q.second; have q7 := q.numbers; first | omega | (simp_all; done) | (simp_all; omega))
  all_goals try (refine (decide_eq_true ?_).symm; constructor <;> first | assumption | omega | (simp_all; done) | (simp_all; omega))
  all_goals try (rw [decide_eq_decide]; constructor; { intro q; constructor <;> first | assumption | omega | (simp_all; done) | (simp_all; omega) }; { intro q; have q7 := q.numbers; first | omega | (simp_all; done) | (simp_all; omega) })
open Go.Proofs
set_option linter.unusedVariables false
set_option linter.unusedSimpArgs false
/-- The numbers behind the act's word. -/
def actNums (a : DAct) : List Int := (if a.fKind = 8 ∨ a.fKind = 9 then [] else if a.fKind = 1 then [a.fA, a.fB] else [a.fA]) ++ a.fNumbers
noncomputable def actText (a : DAct) : List UInt8 := if a.ok then actWord a.fKind ++ wordsL (actNums a) else []
theorem actNums_num {a : DAct} (h : a.ok) : ∀ n ∈ actNums a, Num n := by
  have h1 := h.hA
  have h2 := h.hB
  intro n hn
  unfold actNums at hn
  rcases List.mem_append.1 hn with q | q
  · split at q
    · cases q
    · split at q <;> simp at q <;> (constructor <;> omega)
  · exact h.num n q
theorem actNums_len {a : DAct} (h : a.ok) : (actNums a).length ≤ 14 := by
  have := h.len
  unfold actNums
  rw [List.length_append]
  split
  · simp; omega
  · split <;> simp <;> omega
theorem or_prim {α : Type} {c : α → HVal} : ∀ {l : List α} {es : List (List OV)}, OR (oP c) l es → es = l.map fun x => [OV.v (c x)]
  | [], [], _ => rfl
  | x :: l, e :: es, h => by rw [List.map_cons, ← or_prim h.2, h.1]
  | [], _ :: _, h => h.elim
  | _ :: _, [], h => h.elim
/-- An own slice, as what has grown. -/
theorem ungrown {α : Type} {c : α → HVal} {h g : Heap} {sz : Nat} {l : List α} {y : OV} (oy : OS (oP c) sz l y) (w : New h y.rows g) :
    ∃ o, oside h l o ∧ y.val = oval sz l.length o ∧ g = oheap h (.row sz ((l.map fun x => [c x]).map (List.map .v))) o := by
  rcases oy with ⟨rfl, rfl⟩ | ⟨n, es, rfl, hr⟩
  · rw [OV.nil_rows] at w
    exact ⟨none, rfl, rfl, funext fun m => w.upto m (by simp [namesOf])⟩
  · have he := or_prim hr
    subst he
    have hn : h n = none := w.fresh n (by rw [OV.sl_rows]; simp [namesOf])
    refine ⟨some n, hn, by simp [OV.val, oval], ?_⟩
    have hrow : (OV.sl n sz (l.map fun x => [OV.v (c x)])).rows = [(n, .row sz ((l.map fun x => [c x]).map (List.map .v)))] := by
      rw [OV.sl_rows, rows_map]
      simp [OV.cells, OV.val]
    rw [hrow] at w
    funext m
    by_cases e : m = n
    · subst e
      rw [oheap_some, upd_same]
      exact w.owns (m, _) (List.mem_cons_self ..)
    · rw [oheap_some, upd_ne _ _ _ _ e]
      exact w.upto m (by simp [namesOf, e])
theorem view_row {α : Type} {c : α → HVal} {h : Heap} {n : Nat} {l : List α} {k : Nat} {R : List (List Cell)} (hn : h n = none) (hk : k = l.length) (hR : R = (l.map fun x => [c x]).map (List.map Cell.v)) : View (upd h n (.row 1 R)) (.os n 1 0 k) (sls 1 (fun x => [c x]) l) := by
  subst hk
  subst hR
  obtain ⟨y, h1, h2, h3⟩ := grown (c := c) (sz := 1) (o := some n) (l := l) (h := h) hn
  rw [oval_some] at h2
  exact h2 ▸ View.ovD y (OS.dat (fun _ _ q => oP_dat q) h1) h3.owns
def keep57 : List Nat := [0, 2]
def ib57 : List Nat := [3]
def mk57 : Marks := fun _ => ([], .nil, [])
set_option maxRecDepth 100000 in
theorem l00Own (l : List Int) (hl : l.length ≤ 1048576) : FnN Tryd.prog 57 [sls 1 (fun n => [I n]) l] (QS (OS (oP I) 1 l)) := by
  refine fnNF 6 keep57 ib57 mk57 mix Tryd.func57 rfl (by kernel_rfl) (by simp) fun h => ?_
  simp (maxSteps := 1000000) -dsimp -implicitDefEqProofs only [go_sem, ↓reduceIte, keep57, ib57, mk57, Tryd.f57]
  repeat' (with_reducible first | intro _ | refine And.intro ?_ ?_)
  all_goals try (first | exact own_nil (by assumption) | exact own_emp (by assumption) | exact own_row (by assumption) | omega)
def keep28 : List Nat := [0, 2, 3, 5]
def ib28 : List Nat := [22]
def mk28 : Marks := fun id => match id with | 2 => ([], (.op 0 (.op 1 (.op 2 (.op 3 (.op 4 (.op 5 (.op 6 (.op 7 (.op 8 (.op 9 .nil)))))))))), []) | 3 => ([4, 8, 13, 14], (.op 0 (.op 1 (.op 2 (.op 3 (.op 5 (.op 6 (.op 7 (.op 9 (.op 10 (.op 11 (.op 12 (.op 4 (.op 8 (.op 13 (.op 14 (.op 15 .nil)))))))))))))))), []) | _ => ([], .nil, [])
set_option maxRecDepth 100000 in
theorem l08ActText (a : DAct) (ha : a.ok) : Fn0 Tryd.prog 28 [.ip 4 [a.c] 0 0] (.str (actWord a.fKind ++ wordsL (actNums a))) := by
  have hk := ha.kind
  have hl := ha.len
  have hw := actWord_len a.fKind
  have hn := actNums_num ha
  have hnl := actNums_len ha
  simp only [DAct.c_eq]
  have hu : ∃ u : Nat, u ≤ 2 ∧ (if a.fKind = 1 then 2 else if a.fKind = 8 then 0 else if a.fKind = 9 then 0 else 1 : Int) = u ∧ actNums a = [a.fA, a.fB].take u ++ a.fNumbers := by
    unfold actNums
    rcases (by omega : a.fKind = 1 ∨ a.fKind = 8 ∨ a.fKind = 9 ∨ (a.fKind ≠ 1 ∧ a.fKind ≠ 8 ∧ a.fKind ≠ 9)) with e | e | e | e
    · exact ⟨2, by omega, by simp [e], by simp [e]⟩
    · exact ⟨0, by omega, by simp [e], by simp [e]⟩
    · exact ⟨0, by omega, by simp [e], by simp [e]⟩
    · exact ⟨1, by omega, by simp [e], by simp [e]⟩
  obtain ⟨u, hu2, hue, hun⟩ := hu
  refine fn0F 38 keep28 ib28 mk28 mix Tryd.func28 rfl (by kernel_rfl) (by simp) fun h => ?_
  simp (maxSteps := 1000000) -dsimp -implicitDefEqProofs only [go_sem, ↓reduceIte, keep28, ib28, mk28, Tryd.f28]
  first | refine HFnF.mk ((hue ▸ l08Uses a.fKind)) ?_ | refine CallSF.mk ((hue ▸ l08Uses a.fKind)) ?_ | refine HFnF.mkAt ((hue ▸ l08Uses a.fKind)) ?_ | refine CallSF.mk (FnAt.fn0 ((hue ▸ l08Uses a.fKind))) ?_
  simp (maxSteps := 1000000) -dsimp -implicitDefEqProofs only [go_sem, ↓reduceIte, keep28, ib28, mk28, Tryd.f28]
  repeat' (with_reducible first | intro _ | refine And.intro ?_ ?_)
  all_goals try (first | omega | decide)
  simp (maxSteps := 1000000) -dsimp -implicitDefEqProofs only [go_sem, ↓reduceIte, keep28, ib28, mk28, Tryd.f28, Option.toArray_none, Option.toArray_some, List.filterMap_cons, List.filterMap_nil, List.elem_cons_self, List.nil_append, List.append_nil, List.toList_toArray]
  repeat' (with_reducible first | intro _ | refine And.intro ?_ ?_)
  all_goals try (first | omega | decide)
  have ho : FnN Tryd.prog 57 [.sl 1 (([a.fA, a.fB].map fun n => [I n]).take u) (decide (u = 2))] (QS (OS (oP I) 1 ([a.fA, a.fB].take u))) :=
    FnN.sub (SubL.cons (by rw [← List.map_take]; exact Sub.loose _ _ _) SubL.nil) (l00Own ([a.fA, a.fB].take u) (by simp; omega))
  first | refine HFnF.mk (l08Word a.fKind hk.1 hk.2) ?_ | refine CallSF.mk (l08Word a.fKind hk.1 hk.2) ?_ | refine HFnF.mkAt (l08Word a.fKind hk.1 hk.2) ?_ | refine CallSF.mk (FnAt.fn0 (l08Word a.fKind hk.1 hk.2)) ?_
  simp (maxSteps := 1000000) -dsimp -implicitDefEqProofs only [go_sem, ↓reduceIte, keep28, ib28, mk28, Tryd.f28]
  refine HFnF.nw ho ?_
  rintro r l_ g ⟨y, oy, rfl, rfl⟩ w1
  obtain ⟨o, ho, hv, hg⟩ := ungrown oy w1
  have htl : (List.take u [a.fA, a.fB]).length ≤ 2 := by simp; omega
  rw [hun] at hn hnl ⊢
  rw [hv]
  subst hg
  cases o with
  | none =>
    rw [oside_none] at ho
    rw [ho, List.nil_append] at hn ⊢
    simp (maxSteps := 1000000) -dsimp -implicitDefEqProofs only [go_sem, ↓reduceIte, keep28, ib28, mk28, Tryd.f28, oval_none, oheap_none]
    repeat' (with_reducible first | intro _ | refine And.intro ?_ ?_)
    all_goals try (first | omega | decide)
    all_goals refine HFnF.lend0 (l08Words (actWord a.fKind) a.fNumbers (by omega) (by omega) hn) (ViewL.cons (View.same _ _) (ViewL.cons ?_ ViewL.nil)) rfl ?_
    all_goals try (exact view_row (by assumption) rfl rfl)
    all_goals try (exact (View.same _ _).sub (by rw [show a.fNumbers = [] by simp_all]; exact Sub.loose _ _ _))
    all_goals simp (maxSteps := 1000000) -dsimp -implicitDefEqProofs only [go_sem, ↓reduceIte, keep28, ib28, mk28, Tryd.f28]
    all_goals try (intro m; by_cases e : h m = none; { exact .inl e }; { refine .inr ?_; simp only [upd]; (repeat' split); all_goals first | rfl | (subst_vars; simp_all; done) })
  | some n =>
    rw [oside_some] at ho
    simp (maxSteps := 1000000) -dsimp -implicitDefEqProofs only [go_sem, ↓reduceIte, keep28, ib28, mk28, Tryd.f28, oval_some, oheap_some]
    repeat' (with_reducible first | intro _ | refine And.intro ?_ ?_)
    all_goals try (first | omega | exact Nat.le_refl _ | decide)
    refine HFnF.lend0 (l08Words (actWord a.fKind) _ (by omega) (by omega) hn) (ViewL.cons (View.same _ _) (ViewL.cons ?_ ViewL.nil)) rfl ?_
    · refine view_row (by simp_all [upd]) (by rw [List.length_append]) ?_
      rw [List.take_of_length_le (by simp), List.map_append, List.map_append]
    simp (maxSteps := 1000000) -dsimp -implicitDefEqProofs only [go_sem, ↓reduceIte, keep28, ib28, mk28, Tryd.f28]
    (intro m; by_cases e : h m = none; { exact .inl e }; { refine .inr ?_; simp only [upd]; (repeat' split); all_goals first | rfl | (subst_vars; simp_all; done) })
def keep10 : List Nat := [0, 1, 2, 3, 4, 6, 9, 18, 24]
def ib10 : List Nat := [1, 17, 22, 28]
def mk10 : Marks := fun id => match id with | 9 => ([0, 9, 10], (.op 1 (.op 2 (.op 3 (.op 6 (.op 7 (.op 8 (.op 0 (.op 4 (.op 5 (.op 9 (.op 10 (.op 11 .nil)))))))))))), []) | _ => ([], .nil, [])
set_option maxRecDepth 100000 in
theorem implActText (a : DAct) (hs : a.s ≤ 1048576) : Fn0 Tryd.prog 10 [.agg a.c] (.str (actText a)) := by
  simp only [DAct.c_eq]
  refine fn0F 41 keep10 ib10 mk10 mix Tryd.func10 rfl (by kernel_rfl) (by simp) fun h => ?_
  simp (maxSteps := 1000000) -dsimp -implicitDefEqProofs only [go_sem, ↓reduceIte, keep10, ib10, mk10, Tryd.f10]
  first | refine HFnF.mk (isAct a hs) ?_ | refine CallSF.mk (isAct a hs) ?_ | refine HFnF.mkAt (isAct a hs) ?_ | refine CallSF.mk (FnAt.fn0 (isAct a hs)) ?_
  simp (maxSteps := 1000000) -dsimp -implicitDefEqProofs only [go_sem, ↓reduceIte, keep10, ib10, mk10, Tryd.f10, DAct.c_eq]
  repeat' (with_reducible first | intro _ | refine And.intro ?_ ?_)
  · rename_i e; rw [actText, if_neg e]
  rename_i ha
  have hk := ha.kind
  have hl := ha.len
  have hw := actWord_len a.fKind
  have hn := actNums_num ha
  have hnl := actNums_len ha
  first | refine HFnF.mk (isMentioned a.fKind) ?_ | refine CallSF.mk (isMentioned a.fKind) ?_ | refine HFnF.mkAt (isMentioned a.fKind) ?_ | refine CallSF.mk (FnAt.fn0 (isMentioned a.fKind)) ?_
  simp (maxSteps := 1000000) -dsimp -implicitDefEqProofs only [go_sem, ↓reduceIte, keep10, ib10, mk10, Tryd.f10]
  repeat' (with_reducible first | intro _ | refine And.intro ?_ ?_)
  all_goals try (exfalso; omega)
  all_goals try (first | omega | decide)
  all_goals
    first | refine HFnF.mk (actWords) ?_ | refine CallSF.mk (actWords) ?_ | refine HFnF.mkAt (actWords) ?_ | refine CallSF.mk (FnAt.fn0 (actWords)) ?_
    simp (maxSteps := 1000000) -dsimp -implicitDefEqProofs only [go_sem, ↓reduceIte, keep10, ib10, mk10, Tryd.f10]
    repeat' (with_reducible first | intro _ | refine And.intro ?_ ?_)
    all_goals try (rw [IntWalk.i64_in _ (by omega)]; omega)
    simp (maxSteps := 1000000) -dsimp -implicitDefEqProofs only [go_sem, ↓reduceIte, keep10, ib10, mk10, Tryd.f10, actWord_at hk.1 hk.2]
    repeat' (with_reducible first | intro _ | refine And.intro ?_ ?_)
    all_goals try (first | omega | decide)
  all_goals refine HFnF.lend0 (wordsOf (actWord a.fKind) (actNums a) (by omega) (by omega) hn) (ViewL.cons (View.same _ _) (ViewL.cons ?_ ViewL.nil)) rfl ?_
  all_goals try (refine view_row (by simp_all [upd]) (by simp_all [actNums]; try omega) (by simp_all [actNums]))
  all_goals try (exact (View.same _ _).sub (by rw [show actNums a = [] by simp_all [actNums]]; exact Sub.loose _ _ _))
  all_goals simp (maxSteps := 1000000) -dsimp -implicitDefEqProofs only [go_sem, ↓reduceIte, keep10, ib10, mk10, Tryd.f10]
  all_goals try (refine ⟨by rw [actText, if_pos ha], ?_⟩)
  all_goals try (rw [actText, if_pos ha])
  all_goals try (intro m; by_cases e : h m = none; { exact .inl e }; { refine .inr ?_; simp only [upd]; (repeat' split); all_goals first | rfl | (subst_vars; simp_all; done) })
def keep8 : List Nat := [0, 1, 2, 4]
def ib8 : List Nat := [1]
def mk8 : Marks := fun _ => ([], .nil, [])
set_option maxRecDepth 100000 in
theorem specActText (a : DAct) (hs : a.s ≤ 1048576) : Fn0 Tryd.prog 8 [.agg a.c] (.str (actText a)) := by
  simp only [DAct.c_eq]
  refine fn0F 6 keep8 ib8 mk8 mix Tryd.func8 rfl (by kernel_rfl) (by simp) fun h => ?_
  simp (maxSteps := 1000000) -dsimp -implicitDefEqProofs only [go_sem, ↓reduceIte, keep8, ib8, mk8, Tryd.f8]
  first | refine HFnF.mk (l08Act a hs) ?_ | refine CallSF.mk (l08Act a hs) ?_ | refine HFnF.mkAt (l08Act a hs) ?_ | refine CallSF.mk (FnAt.fn0 (l08Act a hs)) ?_
  simp (maxSteps := 1000000) -dsimp -implicitDefEqProofs only [go_sem, ↓reduceIte, keep8, ib8, mk8, Tryd.f8, DAct.c_eq]
  repeat' (with_reducible first | intro _ | refine And.intro ?_ ?_)
  · rename_i e
    rw [actText, if_neg e]
  rename_i ha
  first | refine HFnF.mk (l08ActText a ha) ?_ | refine CallSF.mk (l08ActText a ha) ?_ | refine HFnF.mkAt (l08ActText a ha) ?_ | refine CallSF.mk (FnAt.fn0 (l08ActText a ha)) ?_
  simp (maxSteps := 1000000) -dsimp -implicitDefEqProofs only [go_sem, ↓reduceIte, keep8, ib8, mk8, Tryd.f8, DAct.c_eq]
  rw [actText, if_pos ha]
open Go.Proofs
set_option linter.unusedVariables false
set_option linter.unusedSimpArgs false

def keep26 : List Nat := [0, 1, 4, 10]
def ib26 : List Nat := []
def mk26 : Marks := fun _ => ([], .nil, [])
set_option maxRecDepth 100000 in
theorem sz_Int64S (sz : Nat) (es : List (List HVal)) (tg : Bool) (left : Int) (h0 : 0 ≤ left) (h1 : left ≤ 1048576) : Fn0 Tryd.prog 26 [.sl sz es tg, I left] (I (lft left es.length)) := by
  refine fn0F 12 keep26 ib26 mk26 mix Tryd.func26 rfl (by kernel_rfl) (by simp) fun h => ?_
  simp -dsimp -implicitDefEqProofs only [go_sem, Tryd.f26, ↓reduceIte, keep26, ib26, mk26]
  intro hl
  rw [IntWalk.i64_in _ (by omega)]
  refine ⟨fun hn => ?_, fun hn => ?_⟩
  · exact (lft_neg hn).symm
  · exact (lft_pos (by omega)).symm

def keep7 : List Nat := [0, 1, 2, 4, 10]
def ib7 : List Nat := [2]
def mk7 : Marks := fun _ => ([], .nil, [])
set_option maxRecDepth 100000 in
theorem sz_Act (x : DAct) (left : Int) (h0 : 0 ≤ left) (h1 : left ≤ 1048576) : Fn0 Tryd.prog 7 [.agg x.c, I left] (I (lft left x.s)) := by
  rw [DAct.s_eq]
  simp only [DAct.c_eq]
  refine fn0F 12 keep7 ib7 mk7 mix Tryd.func7 rfl (by kernel_rfl) (by simp) fun h => ?_
  simp -dsimp -implicitDefEqProofs only [go_sem, Tryd.f7, ↓reduceIte, keep7, ib7, mk7]
  refine HFnF.mk (sz_Int64S _ _ _ left (by omega) (by omega)) ?_
  rw [List.length_map]
  rcases lft_cases left x.fNumbers.length with ⟨e, hl1⟩ | ⟨e, hl1⟩
  · simp -dsimp -implicitDefEqProofs only [go_sem, ↓reduceIte, keep7, ib7, mk7, Tryd.f7, e]
  · have hn1 : (left - (x.fNumbers.length : Int) < 0) = False := eq_false (by omega)
    simp -dsimp -implicitDefEqProofs only [go_sem, ↓reduceIte, keep7, ib7, mk7, Tryd.f7, e, hn1]
  try (rw [lft_pos (by omega)]; omega)


open Go.Proofs
set_option linter.unusedVariables false
set_option linter.unusedSimpArgs false

def keep29 : List Nat := [0, 2, 3, 4, 11]
def ib29 : List Nat := []
def mk29 : Marks := fun _ => ([], .nil, [])
set_option maxRecDepth 100000 in
theorem to_Int64S (l : List Int) (h1 : l.length ≤ 1048576) : Fn0 Tryd.prog 29 [(sls 1 (fun n => [I n]) l)] (sls 1 (fun n => [I n]) l) := by
  refine fn0S 22 keep29 ib29 mk29 mix Tryd.func29 rfl (by kernel_rfl) (by simp) fun h => ?_
  simp -dsimp -implicitDefEqProofs only [go_sem, Tryd.f29, ↓reduceIte, keep29, ib29, mk29]
  refine fun _ => ⟨by omega, by omega, by omega, by omega, fun n hn => ?_⟩
  refine loopF (keep := keep29) (ib := ib29) (mk := mk29) mix (by kernel_rfl) (fun k : Nat => [(0, (sls 1 (fun n => [I n]) l)), (3, .os n 1 0 l.length), (4, I k)]) (fun k => upd h n (.row 1 (fillUp (fun n => [I n]) [.int .i64 0] l k))) (fun k => k ≤ l.length) (fun k => l.length - k) 0 (by simp [SatL, tget, Heap.le_refl, fillUp_zero]) ?_
  intro k hk
  rcases Nat.lt_or_ge k l.length with hlt | hge
  · have ea : l[k]? = some l[k] := List.getElem?_eq_getElem hlt
    simp -dsimp -implicitDefEqProofs only [go_sem, ↓reduceIte, keep29, ib29, mk29, Tryd.f29, ea, fillUp_get _ _ _ _ hlt]
    refine fun _ => ⟨fun _ => ⟨hlt, hlt, k + 1, by rw [IntWalk.i64_in _ (by omega)]; rfl, ?_, by omega, by omega⟩, fun hn => absurd hlt hn⟩
    exact le_fill hlt rfl
  · have hk' : k = l.length := by omega
    subst hk'
    simp -dsimp -implicitDefEqProofs only [go_sem, ↓reduceIte, keep29, ib29, mk29, Tryd.f29, Nat.lt_irrefl]
    rw [fillUp_all]
    exact fun _ => shift_row _ hn (Heap.le_refl _) _ (by simp)

def keep9 : List Nat := [0, 1, 2, 3]
def ib9 : List Nat := [1]
def mk9 : Marks := fun _ => ([], .nil, [])
set_option maxRecDepth 100000 in
theorem to_Act (x : DAct) (hs : x.s ≤ 1048576) : Fn0 Tryd.prog 9 [.agg x.c] (.agg x.c) := by
  rw [DAct.s_eq] at hs
  simp only [DAct.c_eq]
  refine fn0S 18 keep9 ib9 mk9 mix Tryd.func9 rfl (by kernel_rfl) (by simp) fun h => ?_
  simp -dsimp -implicitDefEqProofs only [go_sem, Tryd.f9, ↓reduceIte, keep9, ib9, mk9]
  intro n2 h2 n3 h3
  have e1 : (n2 = n3) = False := eq_false fun e => h3.1 e.symm
  have e2 : (n3 = n2) = False := eq_false h3.1
  refine HFnF.mk (to_Int64S x.fNumbers (by omega)) ?_
  simp -dsimp -implicitDefEqProofs only [go_sem, ↓reduceIte, keep9, ib9, mk9, Tryd.f9, upd_upd, upd_get, e1, e2]
  exact shift_le (by simp -dsimp -implicitDefEqProofs only [go_sem, h2, h3, e1, e2, upd_get])


open Go.Proofs
set_option linter.unusedVariables false
set_option linter.unusedSimpArgs false

def keep34 : List Nat := [0, 1, 4, 5, 10, 14, 25]
def ib34 : List Nat := []
def mk34 : Marks := fun id => match id with | 6 => ([], (.op 0 (.op 1 (.op 2 (.op 3 (.op 4 (.op 5 (.op 6 (.op 7 (.op 8 .nil))))))))), []) | _ => ([], .nil, [])
set_option maxRecDepth 100000 in
theorem eq_Int64S (a b : List Int) : Fn0 Tryd.prog 34 [(sls 1 (fun n => [I n]) a), (sls 1 (fun n => [I n]) b)] (.bool (decide (a = b))) := by
  refine fn0F 26 keep34 ib34 mk34 mix Tryd.func34 rfl (by kernel_rfl) (by simp) fun h => ?_
  simp -dsimp -implicitDefEqProofs only [go_sem, Tryd.f34, ↓reduceIte, keep34, ib34, mk34]
  refine fun _ _ => ⟨fun hne => ?_, fun heq => ?_⟩
  · exact (decide_eq_false fun e => hne (by rw [e])).symm
  · refine loopF (keep := keep34) (ib := ib34) (mk := mk34) mix (by kernel_rfl) (fun k : Nat => [(0, (sls 1 (fun n => [I n]) a)), (1, (sls 1 (fun n => [I n]) b)), (5, I k)]) (fun _ => h) (fun k => k ≤ a.length ∧ a.take k = b.take k) (fun k => a.length - k) 0 (by simp [SatL, tget, Heap.le_refl]) ?_
    intro k ⟨hk, hp⟩
    rcases Nat.lt_or_ge k a.length with hlt | hge
    · have hlb : k < b.length := by omega
      have ea : a[k]? = some a[k] := List.getElem?_eq_getElem hlt
      have eb : b[k]? = some b[k] := List.getElem?_eq_getElem hlb
      simp -dsimp -implicitDefEqProofs only [go_sem, ↓reduceIte, keep34, ib34, mk34, Tryd.f34, ea, eb]
      refine fun _ => ⟨fun _ => ⟨hlt, hlb, fun hne => ?_, fun he => ?_⟩, fun hn => absurd hlt hn⟩
      · first
          | exact (decide_eq_false fun e => hne (getElem_of_eq e hlt)).symm
          | exact (decide_eq_false fun e => by have := getElem_of_eq e hlt (hb := hlb); rw [this] at hne; simp at hne).symm
      · exact ⟨k + 1, by rw [IntWalk.i64_in _ (by omega)]; rfl, ⟨by omega, take_step hlt hlb hp (by first | exact he | simpa using he)⟩, by omega⟩
    · have hk' : k = a.length := by omega
      subst hk'
      simp -dsimp -implicitDefEqProofs only [go_sem, ↓reduceIte, keep34, ib34, mk34, Tryd.f34, Nat.lt_irrefl]
      exact fun _ => (decide_eq_true (eq_of_take heq hp)).symm

def keep11 : List Nat := [0, 1, 2, 3, 4, 9, 14, 19, 25]
def ib11 : List Nat := [2, 3]
def mk11 : Marks := fun _ => ([], .nil, [])
set_option maxRecDepth 100000 in
theorem eq_Act (a b : DAct) : Fn0 Tryd.prog 11 [.agg a.c, .agg b.c] (.bool (decide (a = b))) := by
  simp only [DAct.c_eq]
  refine fn0F 26 keep11 ib11 mk11 mix Tryd.func11 rfl (by kernel_rfl) (by simp) fun h => ?_
  simp -dsimp -implicitDefEqProofs only [go_sem, Tryd.f11, ↓reduceIte, keep11, ib11, mk11]
  refine ⟨fun hn => (decide_eq_false fun e => hn (by rw [e])).symm, fun efKind => ?_⟩
  refine ⟨fun hn => (decide_eq_false fun e => hn (by rw [e])).symm, fun efA => ?_⟩
  refine ⟨fun hn => (decide_eq_false fun e => hn (by rw [e])).symm, fun efB => ?_⟩
  refine HFnF.mk (eq_Int64S a.fNumbers b.fNumbers) ?_
  by_cases efNumbers : a.fNumbers = b.fNumbers
  case neg =>
    have d := decide_eq_false efNumbers
    simp -dsimp -implicitDefEqProofs only [go_sem, ↓reduceIte, keep11, ib11, mk11, Tryd.f11, d]
    exact (decide_eq_false fun e => efNumbers (by rw [e])).symm
  have dfNumbers := decide_eq_true efNumbers
  simp -dsimp -implicitDefEqProofs only [go_sem, ↓reduceIte, keep11, ib11, mk11, Tryd.f11, dfNumbers]
  exact (decide_eq_true (DAct.eq_iff.2 ⟨efKind, efA, efB, efNumbers⟩)).symm


open Go.Proofs
set_option linter.unusedVariables false
set_option linter.unusedSimpArgs false
def keep3 : List Nat := [0, 1, 2, 3, 4, 5, 6, 11, 21, 26]
def ib3 : List Nat := [1]
def mk3 : Marks := fun id => match id with | 10 => ([0], (.op 1 (.op 2 (.op 0 (.op 3 (.op 4 .nil))))), []) | _ => ([], .nil, [])
set_option maxRecDepth 100000 in
theorem law_ActText (a : DAct) : Fn0 Tryd.prog 3 [.agg a.c] (.bool true) := by
  simp only [DAct.c_eq]
  refine fn0F 27 keep3 ib3 mk3 mix Tryd.func3 rfl (by kernel_rfl) (by simp) fun h => ?_
  simp (maxSteps := 1000000) -dsimp -implicitDefEqProofs only [go_sem, ↓reduceIte, keep3, ib3, mk3, Tryd.f3]
  first | refine HFnF.mk (sz_Act a 1048576 (by omega) (by omega)) ?_ | refine CallSF.mk (sz_Act a 1048576 (by omega) (by omega)) ?_ | refine HFnF.mkAt (sz_Act a 1048576 (by omega) (by omega)) ?_ | refine CallSF.mk (FnAt.fn0 (sz_Act a 1048576 (by omega) (by omega))) ?_
  simp (maxSteps := 1000000) -dsimp -implicitDefEqProofs only [go_sem, ↓reduceIte, keep3, ib3, mk3, Tryd.f3, DAct.c_eq]
  generalize hL : lft 1048576 a.s = L
  have hs := lft_step hL
  repeat' (with_reducible first | intro _ | refine And.intro ?_ ?_)
  all_goals try (first | (simp [hs, *]; done) | omega | (grind [hs]) | (simp [hs]; omega))
  rename_i h1
  have h2 := hs.2 h1
  have ha : a.s ≤ 1048576 := by omega
  clear hs hL h1 h2
  first | refine HFnF.mk (to_Act a ha) ?_ | refine CallSF.mk (to_Act a ha) ?_ | refine HFnF.mkAt (to_Act a ha) ?_ | refine CallSF.mk (FnAt.fn0 (to_Act a ha)) ?_
  simp (maxSteps := 1000000) -dsimp -implicitDefEqProofs only [go_sem, ↓reduceIte, keep3, ib3, mk3, Tryd.f3]
  first | refine HFnF.mk (specActText a ha) ?_ | refine CallSF.mk (specActText a ha) ?_ | refine HFnF.mkAt (specActText a ha) ?_ | refine CallSF.mk (FnAt.fn0 (specActText a ha)) ?_
  simp (maxSteps := 1000000) -dsimp -implicitDefEqProofs only [go_sem, ↓reduceIte, keep3, ib3, mk3, Tryd.f3]
  first | refine HFnF.mk (to_Act a ha) ?_ | refine CallSF.mk (to_Act a ha) ?_ | refine HFnF.mkAt (to_Act a ha) ?_ | refine CallSF.mk (FnAt.fn0 (to_Act a ha)) ?_
  simp (maxSteps := 1000000) -dsimp -implicitDefEqProofs only [go_sem, ↓reduceIte, keep3, ib3, mk3, Tryd.f3, DAct.c_eq, upd_upd]
  repeat' (with_reducible first | intro _ | refine And.intro ?_ ?_)
  rename_i n1 h1
  first | refine HFnF.mk (implActText a ha) ?_ | refine CallSF.mk (implActText a ha) ?_ | refine HFnF.mkAt (implActText a ha) ?_ | refine CallSF.mk (FnAt.fn0 (implActText a ha)) ?_
  simp (maxSteps := 1000000) -dsimp -implicitDefEqProofs only [go_sem, ↓reduceIte, keep3, ib3, mk3, Tryd.f3, bne_self_eq_false, upd_get, DAct.c_eq]
  first | refine HFnF.mk (to_Act a ha) ?_ | refine CallSF.mk (to_Act a ha) ?_ | refine HFnF.mkAt (to_Act a ha) ?_ | refine CallSF.mk (FnAt.fn0 (to_Act a ha)) ?_
  simp (maxSteps := 1000000) -dsimp -implicitDefEqProofs only [go_sem, ↓reduceIte, keep3, ib3, mk3, Tryd.f3, upd_get]
  first | refine HFnF.mk (eq_Act a a) ?_ | refine CallSF.mk (eq_Act a a) ?_ | refine HFnF.mkAt (eq_Act a a) ?_ | refine CallSF.mk (FnAt.fn0 (eq_Act a a)) ?_
  simp (maxSteps := 1000000) -dsimp -implicitDefEqProofs only [go_sem, ↓reduceIte, keep3, ib3, mk3, Tryd.f3, upd_get, h1, decide_true, Bool.not_true]
open Go.Proofs
set_option linter.unusedVariables false
set_option linter.unusedSimpArgs false
theorem dat_i64 {P : Program} {n : Nat} {t : TypeId} {xs : List HVal} (hu : P.underlying t = some (.int .i64)) (h : Dat P n t xs) : ∃ i : Int, xs = [I i] ∧ InI i := by
  match n, h with
  | 0, h => exact h.elim
  | n + 1, h =>
    simp only [Dat, hu] at h
    obtain ⟨i, rfl, hw⟩ := h
    refine ⟨i, rfl, ?_⟩
    have h1 : IntKind.min .i64 = -9223372036854775808 := by decide
    have h2 : IntKind.max .i64 = 9223372036854775807 := by decide
    simp [Lit.wf, IntKind.has, h1, h2] at hw
    unfold InI
    omega
theorem list_of {α : Type} {c : α → List HVal} {w : α → Prop} : ∀ {es : List (List HVal)}, (∀ y ∈ es, ∃ x, y = c x ∧ w x) → ∃ l : List α, es = l.map c ∧ ∀ x ∈ l, w x
  | [], _ => ⟨[], rfl, by simp⟩
  | e :: es, h => by
    obtain ⟨x, rfl, hx⟩ := h _ List.mem_cons_self
    obtain ⟨l, rfl, hl⟩ := list_of fun y hy => h y (List.mem_cons_of_mem _ hy)
    refine ⟨x :: l, rfl, fun y hy => ?_⟩
    rcases List.mem_cons.1 hy with rfl | hy
    · exact hx
    · exact hl y hy
theorem dat_slice {P : Program} {n sz : Nat} {t e : TypeId} {α : Type} {c : α → List HVal} {w : α → Prop} {xs : List HVal} (hu : P.underlying t = some (.slice e)) (hc : P.cellsOf e = sz) (h : Dat P n t xs)
    (hx : ∀ m y, m < n → Dat P m e y → ∃ x, y = c x ∧ w x) : ∃ l : List α, xs = [sls sz c l] ∧ ∀ x ∈ l, w x := by
  match n, h with
  | 0, h => exact h.elim
  | n + 1, h =>
    simp only [Dat, hu] at h
    obtain ⟨es, rfl, hes⟩ := h
    obtain ⟨l, rfl, hl⟩ := list_of fun y hy => hx n y (by omega) (hes y hy)
    exact ⟨l, by rw [hc], hl⟩
theorem drop_split {α : Type} {xs c r : List α} {o n o' : Nat} (h : (xs.drop o).take n = c) (hr : xs.drop o' = r) (ho : o + n = o') : xs.drop o = c ++ r := by
  rw [← hr, ← ho, ← List.drop_drop, ← h, List.take_append_drop]
theorem cells24 : Tryd.prog.cellsOf 24 = 4 := by kernel_rfl
theorem cells2 : Tryd.prog.cellsOf 2 = 1 := by kernel_rfl
theorem cells22 : Tryd.prog.cellsOf 22 = 1 := by kernel_rfl
set_option maxRecDepth 100000 in
theorem dat_24 : ∀ {n : Nat} {xs : List HVal}, Dat Tryd.prog n 24 xs → ∃ x : DAct, xs = x.c ∧ x.wf
  | 0, _, h => h.elim
  | n + 1, xs, h => by
    simp only [Dat, Tryd.underlying24] at h
    obtain ⟨hl, hf⟩ := h
    rw [cells24] at hl
    have f0 : Dat Tryd.prog n 2 ((xs.drop 0).take (Tryd.prog.cellsOf 2)) := hf 0 _ rfl
    rw [cells2] at f0
    obtain ⟨x0, e0, w0⟩ := (dat_i64 Tryd.underlying2 f0)
    have f1 : Dat Tryd.prog n 2 ((xs.drop 1).take (Tryd.prog.cellsOf 2)) := hf 1 _ rfl
    rw [cells2] at f1
    obtain ⟨x1, e1, w1⟩ := (dat_i64 Tryd.underlying2 f1)
    have f2 : Dat Tryd.prog n 2 ((xs.drop 2).take (Tryd.prog.cellsOf 2)) := hf 2 _ rfl
    rw [cells2] at f2
    obtain ⟨x2, e2, w2⟩ := (dat_i64 Tryd.underlying2 f2)
    have f3 : Dat Tryd.prog n 22 ((xs.drop 3).take (Tryd.prog.cellsOf 22)) := hf 3 _ rfl
    rw [cells22] at f3
    obtain ⟨x3, e3, w3⟩ := (dat_slice (c := (fun n => [I n])) (w := (fun x => InI x)) Tryd.underlying22 cells2 f3 (fun m y hm hy => (dat_i64 Tryd.underlying2 hy)))
    have r4 : xs.drop 4 = [] := List.drop_eq_nil_of_le (by omega)
    have r3 := drop_split e3 r4 rfl
    have r2 := drop_split e2 r3 rfl
    have r1 := drop_split e1 r2 rfl
    have r0 := drop_split e0 r1 rfl
    exact ⟨⟨x0, x1, x2, x3⟩, r0, ⟨w0, w1, w2, w3⟩⟩
def datT : List TypeId := [2, 9, 22, 24, 31, 33, 34, 36, 114]
theorem datT_ok : datB Tryd.prog datT = true := by kernel_rfl

end Go.Hl
