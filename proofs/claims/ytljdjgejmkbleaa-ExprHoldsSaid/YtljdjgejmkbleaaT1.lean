import Derived.Test.YtljdjgejmkbleaaPExprHoldsx2
import Derived.Test.YtljdjgejmkbleaaLent
namespace Go.Proofs.Ytljdjgejmkbleaa.PExprHolds
open Go.RowKit Go.Proofs.YtljdjgejmkbleaaW.PrintWords Go.Proofs.YtljdjgejmkbleaaW.PrintLast Go.Proofs.YtljdjgejmkbleaaW.PrintMore Lent
attribute [local go_sem] max2_int min2_int max_two min_two max_three min_three max_four min_four   -- for this text's walks alone

set_option maxHeartbeats 400000 in
theorem SetLeft_calls (b : Bool) (A1 A2 : Addr) (n1 n2 c1 c2 : Nat) (w : World) (h1 : w.cell? (A1.add n1) = some (.string ⟨#[109, 97, 114, 107]⟩)) (hc1 : n1 + 1 ≤ c1) (hb1 : n1 < 8796093022207)
    (h2 : w.cell? (A2.add (n2 * 2)) = some (.int .i64 (-77))) (hc2 : n2 + 1 ≤ c2) (hb2 : n2 < 8796093022207) :
    Calls Try.prog 7 #[.agg #[.bool b, .slice (some A1) n1 c1, .slice (some A2) n2 c2]] w fun e w' => e = .returned (.bool true) ∧ Below w.heap.size w w' := by
  have hu25 := Try.underlying25
  have hu37 := Try.underlying37
  have h1' := cell_alloc h1
  have h2' := cell_alloc h2
  clear h1 h2
  go_enter Try.func7, Try.ntmps7
  go_wp2
  go_ret
  exact ⟨rfl, below_alloc (Below.refl _ _) _⟩
end Go.Proofs.Ytljdjgejmkbleaa.PExprHolds
