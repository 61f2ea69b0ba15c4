/- A list that is lent out with marks behind it: what its row says of the list, and of the marks. -/
import Derived.Test.YtfonajakaimnoaaDoorWWords
import Derived.Test.YtfonajakaimnoaaDoorWLast
import Derived.Test.YtfonajakaimnoaaDoorWMore
namespace Go.Proofs.YtfonajakaimnoaaDoor.Lent
open Go.RowKit Go.Proofs.YtfonajakaimnoaaDoorW.PrintWords Go.Proofs.YtfonajakaimnoaaDoorW.PrintLast Go.Proofs.YtfonajakaimnoaaDoorW.PrintMore

theorem bcell {W w1 : World} (hb : Below W.heap.size W w1) : (∀ b o, b < W.heap.size → w1.cell? ⟨b, o, none⟩ = W.cell? ⟨b, o, none⟩) ∧ (∀ b o, b < W.heap.size → w1.frozen? ⟨b, o, none⟩ = W.frozen? ⟨b, o, none⟩) :=
  ⟨fun b o h => hb.cell (p := ⟨b, o, none⟩) h, fun b o h => hb.frozen (p := ⟨b, o, none⟩) h⟩
theorem cell_alloc {w : World} {A : Addr} {v : Value} (h : w.cell? A = some v) (o : Obj) : (w.alloc o).cell? A = some v := pw_cell_below (below_alloc (Below.refl _ _) o) h

section
variable {α : Type} {d : Kd α} {w : World} {A : Option Addr}
/-- A row's beginning reads, too. -/
theorem C_pre {xs ys : List α} (h : d.C w A (xs ++ ys).length (xs ++ ys)) : d.C w A xs.length xs := by
  obtain ⟨_, h2, h3⟩ := h
  rw [List.length_append] at h2 h3
  refine ⟨rfl, by omega, fun hn => ?_⟩
  obtain ⟨ad, e, hc⟩ := h3 (by omega)
  exact ⟨ad, e, fun j p hj => hc j p (by rw [List.getElem?_append_left (List.getElem?_eq_some_iff.1 hj).1]; exact hj)⟩
/-- An element of a row, by its place. -/
theorem C_nth {xs : List α} {n : Nat} (h : d.C w A n xs) (j : Nat) (p : α) (hj : xs[j]? = some p) : ∃ ad c, A = some ad ∧ d.K w p c ∧ ∀ i u, c[i]? = some u → w.cell? (ad.add (j * d.sz + i)) = some u := by
  obtain ⟨h1, _, h3⟩ := h
  have := (List.getElem?_eq_some_iff.1 hj).1
  obtain ⟨ad, e, hc⟩ := h3 (by omega)
  obtain ⟨c, _, hK, hu⟩ := hc j p hj
  exact ⟨ad, c, e, hK, hu⟩
theorem C_bound {xs : List α} {n : Nat} (h : d.C w A n xs) : xs.length ≤ 9223372036854775807 := by
  obtain ⟨h1, h2, _⟩ := h
  omega
end
section
variable {α : Type} {d : Kd α} {e base : Nat} {ok : Nat → Prop} {w : World} {A : Option Addr} {c : Nat}
theorem R_pre {xs ys : List α} (h : d.R e w base ok (.slice A (xs ++ ys).length c) (xs ++ ys)) : d.C w A xs.length xs ∧ xs.length ≤ c ∧ (xs ++ ys).length ≤ c := by
  obtain ⟨_, h2, h3⟩ := Kd.R_reads' h
  exact ⟨C_pre h3, by rw [List.length_append] at h2; omega, h2⟩
/-- The row without what stands behind it. -/
theorem R_cut {xs ys : List α} (h : d.R e w base ok (.slice A (xs ++ ys).length c) (xs ++ ys)) : d.R e w base ok (.slice A xs.length c) xs := by
  have := Kd.R_take (m := xs.length) h (by simp)
  rwa [List.take_left] at this
end
end Go.Proofs.YtfonajakaimnoaaDoor.Lent
