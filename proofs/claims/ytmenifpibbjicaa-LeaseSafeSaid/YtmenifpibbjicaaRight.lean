/-
  The contracts of tick.Right: which number is a tick; the world stays as it is.
-/
import Derived.Test.YtmenifpibbjicaaRows
import Derived.WalkKit
import Derived.ProofKit
namespace Go.Proofs.Ytmenifpibbjicaa.base
open Go.RowKit

theorem right_yes (t : Int) (w : World) (h0 : 0 ≤ t) (h1 : t ≤ 1099511627776) :
    Calls Try.prog 15 #[.int .i64 t] w fun e w' => e = .returned (.bool true) ∧ w = w' := by
  go_enter Try.func15, Try.ntmps15
  go_wp2
  go_ret
  exact ⟨rfl, rfl⟩

theorem right_no (t : Int) (w : World) (h : t < 0 ∨ 1099511627776 < t) :
    Calls Try.prog 15 #[.int .i64 t] w fun e w' => e = .returned (.bool false) ∧ w = w' := by
  rcases h with h | h
  · go_enter Try.func15, Try.ntmps15
    go_wp2
    go_ret
    exact ⟨rfl, rfl⟩
  · have h0 : 0 ≤ t := by omega
    have hd : decide (t ≤ 1099511627776) = false := by simp; omega
    go_enter Try.func15, Try.ntmps15
    go_wp2
    go_ret
    exact ⟨rfl, rfl⟩

end Go.Proofs.Ytmenifpibbjicaa.base
