/- The walk of SeedDraws. -/
import Derived.Test.YtifnmehpkelifaaDoorDraws
namespace Go.Proofs.YtifnmehpkelifaaDoor
open Go.RowKit SeedP
/-- SeedDraws (3) -/
theorem seedDraws_walk (key i n k : Int) (w : World) (hs : St w) (_bk : 0 ≤ key ∧ key ≤ 18446744073709551615) (bi : -9223372036854775808 ≤ i ∧ i ≤ 9223372036854775807) (bn : -9223372036854775808 ≤ n ∧ n ≤ 9223372036854775807) (_bk : -9223372036854775808 ≤ k ∧ k ≤ 9223372036854775807) :
    Calls Tryd.prog 3 #[.int .u64 key, .int .i64 i, .int .i64 n, .int .i64 k] w fun e w' => e = .returned (.bool true) ∧ Below w.heap.size w w' := by
  go_enter Tryd.func3, Tryd.ntmps3
  go_wp2_with fail
  refine (draws_c key i n k _ hs bi.1 bi.2 bn.2).mono ?_
  rintro e w1 ⟨rfl, hb1⟩
  go_wp2_with fail
  refine (awake_c _ (hs.below hb1 hs.pos)).mono ?_
  rintro e w2 ⟨rfl, hb2⟩
  go_wp2
  go_ret
  exact ⟨rfl, hb1.trans (hb2.mono hb1.size)⟩
end Go.Proofs.YtifnmehpkelifaaDoor
