/- HostRefuses: the law, whole. -/
import Derived.Test.YtamcfjjnaolpmaaGreatDoorHrb
import Derived.Test.YtamcfjjnaolpmaaGreatDoorHrc
import Derived.Deep.DeepCutAuto
namespace Go.Proofs.YtamcfjjnaolpmaaGreatDoor
open Go.RowKit
set_option maxRecDepth 100000

/-- The law returns true, whatever the input. -/
theorem hostRefuses_calls (name : ByteArray) (b c t k lim wt pat : Int) (a : Option Addr) (bk bc : Nat) (n : Int) (x0 x1 x2 : ByteArray) (ix : Int) (w : World) :
    Calls Tryz.prog 4 #[.string name, .agg #[.int .i64 b, .int .i64 c, .int .i64 t, .int .i64 k, .int .i64 lim, .int .i64 wt, .int .i64 pat], .slice a bk bc, .int .i64 n, .agg #[.string x0, .string x1, .string x2, .int .i64 ix]] w
      fun e w' => e = .returned (.bool true) ∧ Ext w w' := by
  by_cases h1 : (60 : Int) < name.size
  · exact refuses_long name b c t k lim wt pat a bk bc n x0 x1 x2 ix w h1
  · by_cases h2 : (60 : Int) < bk
    · exact refuses_bytes name b c t k lim wt pat a bk bc n x0 x1 x2 ix w h1 h2
    · cases hnm : namedB name.data.toList with
      | false => exact refuses_unnamed name b c t k lim wt pat a bk bc n x0 x1 x2 ix w h1 h2 hnm
      | true =>
        by_cases hr : RightAll b c t k lim wt pat
        · exact refuses_main name b c t k lim wt pat a bk bc n x0 x1 x2 ix w h1 h2 hnm hr
        · exact refuses_bad name b c t k lim wt pat a bk bc n x0 x1 x2 ix w h1 h2 hnm hr
end Go.Proofs.YtamcfjjnaolpmaaGreatDoor
