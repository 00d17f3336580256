/- strconv.FormatInt at base 16: of 256 to 287. -/
import Derived.Test.YtmhfkbgdkgfafaaDoorJsA
import Derived.Lib.LaidTab
import Derived.Lib.AppendIntMem
import Derived.Laws.BitsLemmas
namespace Go.Proofs.YtmhfkbgdkgfafaaDoor.Js
open Go.RowKit Go.Proofs.YtmhfkbgdkgfafaaDoorW.PrintWords Go.Proofs.YtmhfkbgdkgfafaaDoorW.PrintLast Go.Proofs.YtmhfkbgdkgfafaaDoorW.PrintMore
set_option linter.unusedVariables false
set_option linter.unusedSimpArgs false

/-- math/bits.deBruijn64tab. -/
def tab64 : List Int := [0, 1, 56, 2, 57, 49, 28, 3, 61, 58, 42, 50, 38, 29, 17, 4, 62, 47, 59, 36, 45, 43, 51, 22, 53, 39, 33, 30, 24, 18, 12, 5, 63, 55, 48, 27, 60, 41, 37, 16, 46, 35, 44, 21, 52, 32, 23, 11, 54, 26, 40, 15, 34, 20, 31, 10, 25, 14, 19, 9, 13, 8, 7, 6]
theorem named64 : Tryd.prog.globalNamed "math/bits.deBruijn64tab" = some 3 := by kernel_rfl

set_option maxRecDepth 100000 in
theorem tz64 (w : World) (h : Lib.TabIs Tryd.prog w "math/bits.deBruijn64tab" .u8 tab64) : Calls Tryd.prog 41 #[.int .u64 16] w fun e w' => e = .returned (.int .i64 4) ∧ w' = w := by
  have hc := h.cell named64 15 (by decide)
  rw [show tab64.getD 15 0 = 4 by rfl] at hc
  have hb : bits .and .u64 16 (IntKind.u64.wrap (-16)) = 16 := by decide
  have hq : IntKind.u64.wrap (16 * 285870213051353865) / 288230376151711744 = 15 := by decide
  have hq2 : IntKind.u64.wrap 4573923408821661840 / 288230376151711744 = 15 := by decide
  clear h
  go_enter Tryd.func41, Tryd.ntmps41
  go_wp2
  go_ret
  exact ⟨rfl, rfl⟩
set_option maxRecDepth 100000 in
theorem tz (w : World) (h : Lib.TabIs Tryd.prog w "math/bits.deBruijn64tab" .u8 tab64) : Calls Tryd.prog 39 #[.int .u64 16] w fun e w' => e = .returned (.int .i64 4) ∧ w' = w := by
  have H := Aside0.mk h
  clear h
  go_enter Tryd.func39, Tryd.ntmps39
  go_wp2_with (go_at_call 41; refine (tz64 _ H.out).mono ?_; rintro e w1 ⟨rfl, rfl⟩)
  go_ret
  exact ⟨rfl, rfl⟩
set_option maxRecDepth 100000 in
theorem pow2 (w : World) : Calls Tryd.prog 38 #[.int .i64 16] w fun e w' => e = .returned (.bool true) ∧ w' = w := by
  have hb : bits .and .i64 16 15 = 0 := by decide
  go_enter Tryd.func38, Tryd.ntmps38
  go_wp2
  go_ret
  exact ⟨rfl, rfl⟩

end Go.Proofs.YtmhfkbgdkgfafaaDoor.Js
