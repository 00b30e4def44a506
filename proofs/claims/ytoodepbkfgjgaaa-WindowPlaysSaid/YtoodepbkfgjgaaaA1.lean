/- The place of a counter in the window: its walk. -/
import Derived.Test.YtoodepbkfgjgaaaProg
import Derived.WalkKit
import Derived.Outline
namespace Go.Proofs.Ytoodepbkfgjgaaa
open Go Go.RowKit

theorem at_any (n : Int) (w : World) (h0 : 0 ≤ n) (h1 : n < 18446744073709551616) :
    Calls Try.prog 19 #[.int .u64 n] w fun e w' => e = .returned (.tuple #[.int .u64 (n % 1024 / 64), .int .u64 (n % 64)]) ∧ w' = w := by
  go_enter Try.func19, Try.ntmps19
  go_wp2
  go_ret2
  exact ⟨rfl, rfl⟩
end Go.Proofs.Ytoodepbkfgjgaaa
