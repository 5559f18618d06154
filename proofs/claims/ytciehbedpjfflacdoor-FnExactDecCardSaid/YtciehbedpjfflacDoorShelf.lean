/-
  The contract of strconv.Itoa at this seat's program, laid off the kit's shelf in plain words by the kit's own command: what it returns for every int, where the table of powers of ten holds what the library lays.
-/
import Derived.Shelf.LaysM
import Derived.Shelf.Strconv.Itoa3
import Derived.Test.YtciehbedpjfflacDoorProg
namespace Go.Proofs
open Go.Shelf
def Tryd.laysM171_ren : Go.Shelf.Ren := ⟨fun | 171 => 6 | 243 => 7 | 246 => 8 | 283 => 9 | 284 => 10 | 285 => 11 | 286 => 12 | 129 => 14 | 317 => 13 | 318 => 15 | 319 => 16 | 320 => 17 | 337 => 18 | 338 => 19 | n => n, fun | 3 => 3 | 9 => 9 | 2 => 2 | 4 => 4 | 171 => 26 | 0 => 0 | 53 => 27 | 37 => 24 | 5 => 5 | 173 => 30 | 212 => 34 | 51 => 35 | 20 => 20 | 213 => 36 | 46 => 37 | 232 => 40 | 233 => 41 | n => n, fun | 17 => 0 | 18 => 1 | 19 => 2 | n => n⟩
theorem Tryd.laysM171 : Go.Proofs.LaysM.n171 Tryd.prog Tryd.laysM171_ren := {
  mixed := by kernel_rfl
  f129 := Tryd.func14.trans (congrArg some (by kernel_rfl))
  f171 := Tryd.func6.trans (congrArg some (by kernel_rfl))
  f243 := Tryd.func7.trans (congrArg some (by kernel_rfl))
  f246 := Tryd.func8.trans (congrArg some (by kernel_rfl))
  f283 := Tryd.func9.trans (congrArg some (by kernel_rfl))
  f284 := Tryd.func10.trans (congrArg some (by kernel_rfl))
  f285 := Tryd.func11.trans (congrArg some (by kernel_rfl))
  f286 := Tryd.func12.trans (congrArg some (by kernel_rfl))
  f317 := Tryd.func13.trans (congrArg some (by kernel_rfl))
  f318 := Tryd.func15.trans (congrArg some (by kernel_rfl))
  f319 := Tryd.func16.trans (congrArg some (by kernel_rfl))
  f320 := Tryd.func17.trans (congrArg some (by kernel_rfl))
  f337 := Tryd.func18.trans (congrArg some (by kernel_rfl))
  f338 := Tryd.func19.trans (congrArg some (by kernel_rfl))
  t0 := Tryd.underlying0
  a0 := Tryd.isAgg0
  z0 := Tryd.sizeOf0
  v0 := Tryd.zeroValue0
  t2 := Tryd.underlying2
  a2 := Tryd.isAgg2
  z2 := Tryd.sizeOf2
  v2 := Tryd.zeroValue2
  t3 := Tryd.underlying3
  a3 := Tryd.isAgg3
  z3 := Tryd.sizeOf3
  v3 := Tryd.zeroValue3
  t4 := Tryd.underlying4
  a4 := Tryd.isAgg4
  z4 := Tryd.sizeOf4
  v4 := Tryd.zeroValue4
  t5 := Tryd.underlying5
  a5 := Tryd.isAgg5
  z5 := Tryd.sizeOf5
  v5 := Tryd.zeroValue5
  t9 := Tryd.underlying9
  a9 := Tryd.isAgg9
  z9 := Tryd.sizeOf9
  v9 := Tryd.zeroValue9
  t20 := Tryd.underlying20
  a20 := Tryd.isAgg20
  z20 := Tryd.sizeOf20
  v20 := Tryd.zeroValue20
  t37 := Tryd.underlying24
  a37 := Tryd.isAgg24
  z37 := Tryd.sizeOf24
  v37 := Tryd.zeroValue24
  t46 := Tryd.underlying37
  a46 := Tryd.isAgg37
  z46 := Tryd.sizeOf37
  v46 := Tryd.zeroValue37
  t51 := Tryd.underlying35
  a51 := Tryd.isAgg35
  z51 := Tryd.sizeOf35
  v51 := Tryd.zeroValue35
  t53 := Tryd.underlying27
  a53 := Tryd.isAgg27
  z53 := Tryd.sizeOf27
  v53 := Tryd.zeroValue27
  t171 := Tryd.underlying26
  a171 := Tryd.isAgg26
  z171 := Tryd.sizeOf26
  v171 := Tryd.zeroValue26
  t173 := Tryd.underlying30
  a173 := Tryd.isAgg30
  z173 := Tryd.sizeOf30
  v173 := Tryd.zeroValue30
  t212 := Tryd.underlying34
  a212 := Tryd.isAgg34
  z212 := Tryd.sizeOf34
  v212 := Tryd.zeroValue34
  t213 := Tryd.underlying36
  a213 := Tryd.isAgg36
  z213 := Tryd.sizeOf36
  t232 := Tryd.underlying40
  a232 := Tryd.isAgg40
  z232 := Tryd.sizeOf40
  v232 := Tryd.zeroValue40
  t233 := Tryd.underlying41
  a233 := Tryd.isAgg41
  z233 := Tryd.sizeOf41
  v233 := Tryd.zeroValue41
  g17 := by kernel_rfl
  g18 := by kernel_rfl
  g19 := by kernel_rfl
  i0 := by kernel_rfl
  i2 := by kernel_rfl
  i3 := by kernel_rfl
  i4 := by kernel_rfl
  i5 := by kernel_rfl
  i9 := by kernel_rfl
  i20 := by kernel_rfl
  i37 := by kernel_rfl
  i46 := by kernel_rfl
  i51 := by kernel_rfl
  i53 := by kernel_rfl
  i171 := by kernel_rfl
  i173 := by kernel_rfl
  i212 := by kernel_rfl
  i232 := by kernel_rfl
  i233 := by kernel_rfl
  m17 := by kernel_rfl
  m18 := by kernel_rfl
  m19 := by kernel_rfl }
open Go.RowKit Go.Sort Go.Lib in
/-- strconv.Itoa at this program: the decimal numeral of every int; the world behind the call: new blocks and draws. -/
theorem Tryd.strconv_Itoa (n : Int) (h0 : -9223372036854775808 ≤ n) (h1 : n ≤ 9223372036854775807) (w : World) (htab : Lib.TabIs Tryd.prog w "internal/strconv.uint64pow10" .u64 Lib.pow10Tab) :
    Calls Tryd.prog 6 #[.int .i64 n] w fun e w' => e = .returned (.string ⟨(Lib.itoa n).toArray⟩) ∧ ∃ k os, w' = grow (w.drewN k) os := Any.strconv_Itoa Tryd.laysM171 n h0 h1 w htab
end Go.Proofs
