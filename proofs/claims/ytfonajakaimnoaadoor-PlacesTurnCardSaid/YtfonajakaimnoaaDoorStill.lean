/- A region that draws its order, all of whose operations but the tail only read or call quietly: walked operation by operation, the guards decided by the kernel. -/
import Derived.Test.YtfonajakaimnoaaDoorWWords
import Derived.StillTailTactics
namespace Go.Proofs.YtfonajakaimnoaaDoor.Stl
open Go.RowKit

structure St (P : Program) (ops : Array Oper) (w : World) (Q : Act → Prop) (l : List Oper) (a : Act) : Prop where mk :: (out : wpStill P ops w Q l a)
variable {P : Program} {ops : Array Oper} {w : World} {Q : Act → Prop} {a : Act} {o : Oper} {rest : List Oper}
theorem St.skip (h : Region.wanted o (yielded ops a.tmps) = false) (hn : St P ops w Q rest (a.put o.dst undef)) : St P ops w Q (o :: rest) a := ⟨by
  unfold wpStill
  rw [if_neg (by simp [h])]
  exact hn.out⟩
theorem St.take (h : Region.wanted o (yielded ops a.tmps) = true) (hn : ∀ K : Act → Prop, (∀ a, St P ops w Q rest a → K a) → o.still P a w K) : St P ops w Q (o :: rest) a := ⟨by
  unfold wpStill
  rw [if_pos h]
  exact hn _ (fun _ h => h.out)⟩
theorem St.nil (h : Q a) : St P ops w Q [] a := ⟨h⟩

/-- The region, begun: n operations ahead of the tail. -/
theorem St.region {id : Nat} {Q : Exit → Act → World → Prop} {l : List Oper} (n : Nat) (hm : P.follows .mixedOrders = true) (hB : Region.lexTailB .any l.toArray n = true)
    (h : St P l.toArray w.drew (fun a' => wpList P l.toArray Q (l.drop n) a' w.drew) (l.take n) a) : (Code.region id l.toArray true).wp P Q a w :=
  wp_region_still_tail n hm hB h.out
end Go.Proofs.YtfonajakaimnoaaDoor.Stl
