/- slices.Sort at uint16, walked: 0. The walks are the worked ones at int, turned by wip/gensort.py. -/
import Derived.Test.YtjfmnlhbodekaaaRows
import Derived.Sort.Walk0
namespace Go.Proofs.Ytjfmnlhbodekaaa
open Go Go.Proofs Go.Sort
set_option maxHeartbeats 1000000 in
theorem us_cmp_isNaN_int (x : Int) (w : World) : Calls Try.prog 40 #[.int .u16 x] w fun e w' => e = .returned (.bool false) ∧ w' = w := by
  go_enter Try.func40, Try.ntmps40
  go_wp2
  go_ret
  exact ⟨by simp, rfl⟩
set_option maxHeartbeats 1000000 in
theorem us_cmp_Less_int (x y : Int) (w : World) : Calls Try.prog 30 #[.int .u16 x, .int .u16 y] w fun e w' => e = .returned (.bool (Sort.ltInt x y)) ∧ w' = w := by
  go_enter Try.func30, Try.ntmps30
  go_wp2_with (go_at_call 40; refine (us_cmp_isNaN_int _ _).mono ?_; rintro e w' ⟨rfl, rfl⟩)
  go_ret
  exact ⟨rfl, rfl⟩
end Go.Proofs.Ytjfmnlhbodekaaa
