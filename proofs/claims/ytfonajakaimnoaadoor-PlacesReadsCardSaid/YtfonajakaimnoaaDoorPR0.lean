/- Part of a proof: texts of one seat, one behind the other. -/
import Derived.Test.YtfonajakaimnoaaDoorProg
import Derived.Below
import Derived.Deep.Draws
import Derived.Deep.AppendLies
import Derived.Maps.AppendAt
import Derived.OwnWalk
import Derived.Laws.BytesArg
import Derived.Laws.MakeOwn
import Derived.Laws.OwnMore
import Derived.Deep.OwnRows
import Derived.Tactics
import Derived.Lib.ConvBytes
import Derived.Laws.Slices
import Derived.WalkKit
import Derived.KernelRfl
import Derived.RowKit3
import Derived.Deep.LoopGhost
import Derived.Deep.QuietTactic
import Derived.BigQuiet
import Derived.WideLaws
import Derived.Deep.DeepCutAuto
import Derived.Deep.CutBlock
import Derived.Deep.RegionHeld3
import Derived.Laws.Rows
import Derived.Lib.AppendStr
import Derived.ArgAppend
import Derived.Laws.IdiomCopy
import Derived.OrdersHeld
import Derived.Laws.BitsLemmas
import Derived.RowKit
import Derived.Test.YtfonajakaimnoaaDoorWWords
import Derived.Test.YtfonajakaimnoaaDoorWLast
import Derived.Test.YtfonajakaimnoaaDoorWTab
import Derived.Test.YtfonajakaimnoaaDoorWFour
import Derived.Test.YtfonajakaimnoaaDoorWQPut
import Derived.Test.YtfonajakaimnoaaDoorWApart
import Derived.Test.YtfonajakaimnoaaDoorWArr
import Derived.Test.YtfonajakaimnoaaDoorWZeros
import Derived.Test.YtfonajakaimnoaaDoorWFoot
import Derived.Test.YtfonajakaimnoaaDoorWKept
import Derived.Test.YtfonajakaimnoaaDoorWShare
import Derived.Test.YtfonajakaimnoaaDoorWN
import Derived.Test.YtfonajakaimnoaaDoorWFootNe
import Derived.Test.YtfonajakaimnoaaDoorWAt
import Derived.Test.YtfonajakaimnoaaDoorWEqStruct
import Derived.Test.YtfonajakaimnoaaDoorWRepsOne
import Derived.Test.YtfonajakaimnoaaDoorWGuard
import Derived.Test.YtfonajakaimnoaaDoorWNEv
import Derived.Test.YtfonajakaimnoaaDoorWMore
import Derived.Laws.EntriesVeiled
import Derived.Shelf.Abstract
import Derived.StillTailTactics
import Derived.Lib.SliceRun

namespace Go.Proofs.YtfonajakaimnoaaDoor.Lib
open Go.RowKit Go.Proofs.YtfonajakaimnoaaDoorW.PrintWords Go.Proofs.YtfonajakaimnoaaDoorW.PrintLast Go.Proofs.YtfonajakaimnoaaDoorW.PrintMore
attribute [local go_sem] max2_int min2_int max_two min_two max_three min_three max_four min_four   -- for this text's walks alone
set_option linter.unusedVariables false
set_option linter.unusedSimpArgs false



def errW : Option Int → Value
 | none => .nilIface
 | some c => .iface 0 (.int .i64 c)
theorem errW_none : errW none = .nilIface := rfl
theorem errW_some (c : Int) : errW (some c) = .iface 0 (.int .i64 c) := rfl

theorem info3 : (Tryd.prog.info? 3).map (fun i => (i.zero, i.size, i.bytes)) = some (some (.int .i64 0), 1, 8) := by kernel_rfl
theorem info4 : (Tryd.prog.info? 4).map (fun i => (i.zero, i.size, i.bytes)) = some (some (.bool false), 1, 1) := by kernel_rfl
theorem info5 : (Tryd.prog.info? 5).map (fun i => (i.zero, i.size, i.bytes)) = some (some (.int .u8 0), 1, 1) := by kernel_rfl
theorem info25 : (Tryd.prog.info? 25).map (fun i => (i.zero, i.size, i.bytes)) = some (some (.slice none 0 0), 1, 24) := by kernel_rfl
-- the values' own types
def rd_L1 (xs : List (List Int)) (i : Int) : (List Int) := xs.getD i.toNat ([] : List Int)
theorem at_L1 {w : World} {A : Option Addr} {n : Nat} {xs : List (List Int)} (h : Kd.C (Kd.slice 3 (Kd.int .i64)) w A n xs) (i : Int) (h0 : 0 ≤ i) (h1 : i < n) : ∃ ad A0 c0, A = some ad ∧ w.cell? (ad.add i.toNat) = some (.slice A0 (rd_L1 xs i).length c0) ∧ (rd_L1 xs i).length ≤ c0 ∧ (Kd.int .i64).C w A0 (rd_L1 xs i).length (rd_L1 xs i) := by
 obtain ⟨ad, c, e, _, hK, hc0⟩ := Kd.C_get h ([] : List Int) i h0 h1
 have hc : ∀ j u, c[j]? = some u → w.cell? (ad.add (i.toNat * 1 + j)) = some u := hc0
 obtain ⟨A0, c0, rfl, l0, g0⟩ := hK
 exact ⟨ad, A0, c0, e, by have hq := hc 0 _ rfl; rwa [Nat.mul_one, Nat.add_zero] at hq, l0, g0⟩

/-! #### struct type 93 -/
structure S93 where
 f0 : Int
 f1 : Int
def z93 : S93 := ⟨(0 : Int), (0 : Int)⟩
def k93 : Kd S93 := Kd.iso (Kd.pair (Kd.int .i64) (Kd.int .i64)) (fun x : S93 => (x.f0, x.f1))
theorem k93_open {w : World} {x : S93} {cs : List Value} (h : k93.K w x cs) : cs = [.int .i64 x.f0, .int .i64 x.f1] := by
 obtain ⟨_, _, rfl, rfl, rfl⟩ := h
 exact rfl
theorem k93_openM {w : World} {base : Nat} {ok : Nat → Prop} {x : S93} {cs : List Value} (h : k93.M w base ok x cs) : cs = [.int .i64 x.f0, .int .i64 x.f1] := by
 obtain ⟨_, _, rfl, rfl, rfl⟩ := h
 exact rfl
theorem k93_mk (w : World) (x : S93)  : k93.K w x [.int .i64 x.f0, .int .i64 x.f1] := ⟨[.int .i64 x.f0], [.int .i64 x.f1], rfl, rfl, rfl⟩
theorem k93_mkM (w : World) (base : Nat) (ok : Nat → Prop) (x : S93)  : k93.M w base ok x [.int .i64 x.f0, .int .i64 x.f1] := ⟨[.int .i64 x.f0], [.int .i64 x.f1], rfl, rfl, rfl⟩
theorem k93_mkF (W : World) (ok : Nat → Prop) (x : S93) : Kd.FK k93 W ok x [.int .i64 x.f0, .int .i64 x.f1] := fun W2 _ => k93_mk W2 x
def rd_T93 (xs : List S93) (i : Int) : S93 := xs.getD i.toNat z93
theorem at_T93 {w : World} {A : Option Addr} {n : Nat} {xs : List S93} (h : Kd.C k93 w A n xs) (i : Int) (h0 : 0 ≤ i) (h1 : i < n) : ∃ ad , A = some ad ∧ w.cell? (ad.add (i.toNat * 2)) = some (.int .i64 (rd_T93 xs i).f0) ∧ w.cell? ⟨(ad.add (i.toNat * 2)).block, (ad.add (i.toNat * 2)).off + 1, none⟩ = some (.int .i64 (rd_T93 xs i).f1) := by
 obtain ⟨ad, c, e, _, hK, hc0⟩ := Kd.C_get h z93 i h0 h1
 have hc : ∀ j u, c[j]? = some u → w.cell? (ad.add (i.toNat * 2 + j)) = some u := hc0
 obtain rfl := k93_open hK
 exact ⟨ad, e, hc 0 _ rfl, by rw [← add_field _ _ 1 (by omega)]; exact hc 1 _ rfl⟩

/-! #### struct type 95 -/
structure S95 where
 f0 : S93
 f1 : Int
 f2 : Int
def z95 : S95 := ⟨z93, (0 : Int), (0 : Int)⟩
def k95 : Kd S95 := Kd.iso (Kd.pair k93 (Kd.pair (Kd.int .i64) (Kd.int .i64))) (fun x : S95 => (x.f0, x.f1, x.f2))
theorem k95_open {w : World} {x : S95} {cs : List Value} (h : k95.K w x cs) : cs = [.int .i64 x.f0.f0, .int .i64 x.f0.f1, .int .i64 x.f1, .int .i64 x.f2] := by
 obtain ⟨_, _, rfl, s0, ⟨_, _, rfl, rfl, rfl⟩⟩ := h
 obtain rfl := k93_open s0
 exact rfl
theorem k95_openM {w : World} {base : Nat} {ok : Nat → Prop} {x : S95} {cs : List Value} (h : k95.M w base ok x cs) : cs = [.int .i64 x.f0.f0, .int .i64 x.f0.f1, .int .i64 x.f1, .int .i64 x.f2] := by
 obtain ⟨_, _, rfl, s0, ⟨_, _, rfl, rfl, rfl⟩⟩ := h
 obtain rfl := k93_openM s0
 exact rfl
theorem k95_mk (w : World) (x : S95)  : k95.K w x [.int .i64 x.f0.f0, .int .i64 x.f0.f1, .int .i64 x.f1, .int .i64 x.f2] := ⟨[.int .i64 x.f0.f0, .int .i64 x.f0.f1], [.int .i64 x.f1, .int .i64 x.f2], rfl, (k93_mk w x.f0 ), ⟨[.int .i64 x.f1], [.int .i64 x.f2], rfl, rfl, rfl⟩⟩
theorem k95_mkM (w : World) (base : Nat) (ok : Nat → Prop) (x : S95)  : k95.M w base ok x [.int .i64 x.f0.f0, .int .i64 x.f0.f1, .int .i64 x.f1, .int .i64 x.f2] := ⟨[.int .i64 x.f0.f0, .int .i64 x.f0.f1], [.int .i64 x.f1, .int .i64 x.f2], rfl, (k93_mkM w base ok x.f0 ), ⟨[.int .i64 x.f1], [.int .i64 x.f2], rfl, rfl, rfl⟩⟩
theorem k95_mkF (W : World) (ok : Nat → Prop) (x : S95) : Kd.FK k95 W ok x [.int .i64 x.f0.f0, .int .i64 x.f0.f1, .int .i64 x.f1, .int .i64 x.f2] := fun W2 _ => k95_mk W2 x
def rd_T95 (xs : List S95) (i : Int) : S95 := xs.getD i.toNat z95
theorem at_T95 {w : World} {A : Option Addr} {n : Nat} {xs : List S95} (h : Kd.C k95 w A n xs) (i : Int) (h0 : 0 ≤ i) (h1 : i < n) : ∃ ad , A = some ad ∧ w.cell? (ad.add (i.toNat * 4)) = some (.int .i64 (rd_T95 xs i).f0.f0) ∧ w.cell? ⟨(ad.add (i.toNat * 4)).block, (ad.add (i.toNat * 4)).off + 1, none⟩ = some (.int .i64 (rd_T95 xs i).f0.f1) ∧ w.cell? ⟨(ad.add (i.toNat * 4)).block, (ad.add (i.toNat * 4)).off + 2, none⟩ = some (.int .i64 (rd_T95 xs i).f1) ∧ w.cell? ⟨(ad.add (i.toNat * 4)).block, (ad.add (i.toNat * 4)).off + 3, none⟩ = some (.int .i64 (rd_T95 xs i).f2) := by
 obtain ⟨ad, c, e, _, hK, hc0⟩ := Kd.C_get h z95 i h0 h1
 have hc : ∀ j u, c[j]? = some u → w.cell? (ad.add (i.toNat * 4 + j)) = some u := hc0
 obtain rfl := k95_open hK
 exact ⟨ad, e, hc 0 _ rfl, by rw [← add_field _ _ 1 (by omega)]; exact hc 1 _ rfl, by rw [← add_field _ _ 2 (by omega)]; exact hc 2 _ rfl, by rw [← add_field _ _ 3 (by omega)]; exact hc 3 _ rfl⟩

/-! #### struct type 102 -/
structure S102 where
 f0 : Int
 f1 : Int
 f2 : Int
 f3 : Int
def z102 : S102 := ⟨(0 : Int), (0 : Int), (0 : Int), (0 : Int)⟩
def k102 : Kd S102 := Kd.iso (Kd.pair (Kd.int .i64) (Kd.pair (Kd.int .i64) (Kd.pair (Kd.int .i64) (Kd.int .i64)))) (fun x : S102 => (x.f0, x.f1, x.f2, x.f3))
theorem k102_open {w : World} {x : S102} {cs : List Value} (h : k102.K w x cs) : cs = [.int .i64 x.f0, .int .i64 x.f1, .int .i64 x.f2, .int .i64 x.f3] := by
 obtain ⟨_, _, rfl, rfl, ⟨_, _, rfl, rfl, ⟨_, _, rfl, rfl, rfl⟩⟩⟩ := h
 exact rfl
theorem k102_openM {w : World} {base : Nat} {ok : Nat → Prop} {x : S102} {cs : List Value} (h : k102.M w base ok x cs) : cs = [.int .i64 x.f0, .int .i64 x.f1, .int .i64 x.f2, .int .i64 x.f3] := by
 obtain ⟨_, _, rfl, rfl, ⟨_, _, rfl, rfl, ⟨_, _, rfl, rfl, rfl⟩⟩⟩ := h
 exact rfl
theorem k102_mk (w : World) (x : S102)  : k102.K w x [.int .i64 x.f0, .int .i64 x.f1, .int .i64 x.f2, .int .i64 x.f3] := ⟨[.int .i64 x.f0], [.int .i64 x.f1, .int .i64 x.f2, .int .i64 x.f3], rfl, rfl, ⟨[.int .i64 x.f1], [.int .i64 x.f2, .int .i64 x.f3], rfl, rfl, ⟨[.int .i64 x.f2], [.int .i64 x.f3], rfl, rfl, rfl⟩⟩⟩
theorem k102_mkM (w : World) (base : Nat) (ok : Nat → Prop) (x : S102)  : k102.M w base ok x [.int .i64 x.f0, .int .i64 x.f1, .int .i64 x.f2, .int .i64 x.f3] := ⟨[.int .i64 x.f0], [.int .i64 x.f1, .int .i64 x.f2, .int .i64 x.f3], rfl, rfl, ⟨[.int .i64 x.f1], [.int .i64 x.f2, .int .i64 x.f3], rfl, rfl, ⟨[.int .i64 x.f2], [.int .i64 x.f3], rfl, rfl, rfl⟩⟩⟩
theorem k102_mkF (W : World) (ok : Nat → Prop) (x : S102) : Kd.FK k102 W ok x [.int .i64 x.f0, .int .i64 x.f1, .int .i64 x.f2, .int .i64 x.f3] := fun W2 _ => k102_mk W2 x
def rd_T102 (xs : List S102) (i : Int) : S102 := xs.getD i.toNat z102
theorem at_T102 {w : World} {A : Option Addr} {n : Nat} {xs : List S102} (h : Kd.C k102 w A n xs) (i : Int) (h0 : 0 ≤ i) (h1 : i < n) : ∃ ad , A = some ad ∧ w.cell? (ad.add (i.toNat * 4)) = some (.int .i64 (rd_T102 xs i).f0) ∧ w.cell? ⟨(ad.add (i.toNat * 4)).block, (ad.add (i.toNat * 4)).off + 1, none⟩ = some (.int .i64 (rd_T102 xs i).f1) ∧ w.cell? ⟨(ad.add (i.toNat * 4)).block, (ad.add (i.toNat * 4)).off + 2, none⟩ = some (.int .i64 (rd_T102 xs i).f2) ∧ w.cell? ⟨(ad.add (i.toNat * 4)).block, (ad.add (i.toNat * 4)).off + 3, none⟩ = some (.int .i64 (rd_T102 xs i).f3) := by
 obtain ⟨ad, c, e, _, hK, hc0⟩ := Kd.C_get h z102 i h0 h1
 have hc : ∀ j u, c[j]? = some u → w.cell? (ad.add (i.toNat * 4 + j)) = some u := hc0
 obtain rfl := k102_open hK
 exact ⟨ad, e, hc 0 _ rfl, by rw [← add_field _ _ 1 (by omega)]; exact hc 1 _ rfl, by rw [← add_field _ _ 2 (by omega)]; exact hc 2 _ rfl, by rw [← add_field _ _ 3 (by omega)]; exact hc 3 _ rfl⟩

def rd_L7 (xs : List (List (List Int))) (i : Int) : (List (List Int)) := xs.getD i.toNat ([] : List (List Int))
theorem at_L7 {w : World} {A : Option Addr} {n : Nat} {xs : List (List (List Int))} (h : Kd.C (Kd.slice 25 (Kd.slice 3 (Kd.int .i64))) w A n xs) (i : Int) (h0 : 0 ≤ i) (h1 : i < n) : ∃ ad A0 c0, A = some ad ∧ w.cell? (ad.add i.toNat) = some (.slice A0 (rd_L7 xs i).length c0) ∧ (rd_L7 xs i).length ≤ c0 ∧ (Kd.slice 3 (Kd.int .i64)).C w A0 (rd_L7 xs i).length (rd_L7 xs i) := by
 obtain ⟨ad, c, e, _, hK, hc0⟩ := Kd.C_get h ([] : List (List Int)) i h0 h1
 have hc : ∀ j u, c[j]? = some u → w.cell? (ad.add (i.toNat * 1 + j)) = some u := hc0
 obtain ⟨A0, c0, rfl, l0, g0⟩ := hK
 exact ⟨ad, A0, c0, e, by have hq := hc 0 _ rfl; rwa [Nat.mul_one, Nat.add_zero] at hq, l0, g0⟩

end Go.Proofs.YtfonajakaimnoaaDoor.Lib

/- A list that is lent out with marks behind it: what its row says of the list, and of the marks. -/
namespace Go.Proofs.YtfonajakaimnoaaDoor.Lent
open Go.RowKit Go.Proofs.YtfonajakaimnoaaDoorW.PrintWords Go.Proofs.YtfonajakaimnoaaDoorW.PrintLast Go.Proofs.YtfonajakaimnoaaDoorW.PrintMore

theorem bcell {W w1 : World} (hb : Below W.heap.size W w1) : (∀ b o, b < W.heap.size → w1.cell? ⟨b, o, none⟩ = W.cell? ⟨b, o, none⟩) ∧ (∀ b o, b < W.heap.size → w1.frozen? ⟨b, o, none⟩ = W.frozen? ⟨b, o, none⟩) :=
 ⟨fun b o h => hb.cell (p := ⟨b, o, none⟩) h, fun b o h => hb.frozen (p := ⟨b, o, none⟩) h⟩
theorem cell_alloc {w : World} {A : Addr} {v : Value} (h : w.cell? A = some v) (o : Obj) : (w.alloc o).cell? A = some v := pw_cell_below (below_alloc (Below.refl _ _) o) h

section
variable {α : Type} {d : Kd α} {w : World} {A : Option Addr}
/-- A row's beginning reads, too. -/
theorem C_pre {xs ys : List α} (h : d.C w A (xs ++ ys).length (xs ++ ys)) : d.C w A xs.length xs := by
 obtain ⟨_, h2, h3⟩ := h
 rw [List.length_append] at h2 h3
 refine ⟨rfl, by omega, fun hn => ?_⟩
 obtain ⟨ad, e, hc⟩ := h3 (by omega)
 exact ⟨ad, e, fun j p hj => hc j p (by rw [List.getElem?_append_left (List.getElem?_eq_some_iff.1 hj).1]; exact hj)⟩
/-- An element of a row, by its place. -/
theorem C_nth {xs : List α} {n : Nat} (h : d.C w A n xs) (j : Nat) (p : α) (hj : xs[j]? = some p) : ∃ ad c, A = some ad ∧ d.K w p c ∧ ∀ i u, c[i]? = some u → w.cell? (ad.add (j * d.sz + i)) = some u := by
 obtain ⟨h1, _, h3⟩ := h
 have := (List.getElem?_eq_some_iff.1 hj).1
 obtain ⟨ad, e, hc⟩ := h3 (by omega)
 obtain ⟨c, _, hK, hu⟩ := hc j p hj
 exact ⟨ad, c, e, hK, hu⟩
theorem C_bound {xs : List α} {n : Nat} (h : d.C w A n xs) : xs.length ≤ 9223372036854775807 := by
 obtain ⟨h1, h2, _⟩ := h
 omega
end
section
variable {α : Type} {d : Kd α} {e base : Nat} {ok : Nat → Prop} {w : World} {A : Option Addr} {c : Nat}
theorem R_pre {xs ys : List α} (h : d.R e w base ok (.slice A (xs ++ ys).length c) (xs ++ ys)) : d.C w A xs.length xs ∧ xs.length ≤ c ∧ (xs ++ ys).length ≤ c := by
 obtain ⟨_, h2, h3⟩ := Kd.R_reads' h
 exact ⟨C_pre h3, by rw [List.length_append] at h2; omega, h2⟩
/-- The row without what stands behind it. -/
theorem R_cut {xs ys : List α} (h : d.R e w base ok (.slice A (xs ++ ys).length c) (xs ++ ys)) : d.R e w base ok (.slice A xs.length c) xs := by
 have := Kd.R_take (m := xs.length) h (by simp)
 rwa [List.take_left] at this
end
end Go.Proofs.YtfonajakaimnoaaDoor.Lent

/- slices.IndexFunc and ContainsFunc at numbers and at lists of numbers, slices.Clone: whatever the function that is handed in, as long as it answers a plain predicate and turns nothing that was there. -/
namespace Go.Proofs.YtfonajakaimnoaaDoor.Fn
open Go.RowKit Go.Proofs.YtfonajakaimnoaaDoorW.PrintWords Go.Proofs.YtfonajakaimnoaaDoorW.PrintLast Go.Proofs.YtfonajakaimnoaaDoorW.PrintMore Go.Proofs.YtfonajakaimnoaaDoor.Lib Lent

/-- the place of the first of which p holds, or -1 -/
def idx {α : Type} (p : α → Bool) : List α → Int
 | [] => -1
 | x :: r => if p x then 0 else (if idx p r < 0 then -1 else idx p r + 1)
theorem idx_any {α : Type} (p : α → Bool) (l : List α) : decide (idx p l ≥ 0) = l.any p := by
 induction l with
 | nil => rfl
 | cons x r ih =>
  simp only [idx, List.any_cons]
  by_cases h : p x = true
  ·simp [h]
  ·simp only [h, Bool.false_eq_true, if_false, Bool.false_or]
   rw [← ih]
   by_cases h2 : idx p r < 0
   ·simp [h2]
   ·simp only [h2, if_false]
    simp only [show idx p r + 1 ≥ 0 from by omega, show idx p r ≥ 0 from by omega]
theorem idx_hit {α : Type} (p : α → Bool) (l : List α) (k : Nat) (x : α) (hk : l[k]? = some x) (hx : p x = true) (h : ∀ (j : Nat) (y : α), j < k → l[j]? = some y → p y = false) : idx p l = k := by
 induction l generalizing k with
 | nil => simp at hk
 | cons y r ih =>
  cases k with
  | zero =>
   simp only [List.getElem?_cons_zero, Option.some.injEq] at hk
   subst hk
   simp [idx, hx]
  | succ k =>
   have h0 := h 0 y (by omega) rfl
   have := ih k (by simpa using hk) (fun j z hj hz => h (j + 1) z (by omega) (by simpa using hz))
   simp only [idx, h0, Bool.false_eq_true, if_false, this]
   rw [if_neg (by omega)]
   rfl
theorem idx_miss {α : Type} (p : α → Bool) (l : List α) (h : ∀ (j : Nat) (y : α), l[j]? = some y → p y = false) : idx p l = -1 := by
 induction l with
 | nil => rfl
 | cons y r ih =>
  have h0 := h 0 y rfl
  have := ih (fun j z hz => h (j + 1) z (by simpa using hz))
  simp only [idx, h0, Bool.false_eq_true, if_false, this]
  rfl

theorem int_at {w : World} {A : Option Addr} {n : Nat} {xs : List Int} (h : Kd.C (Kd.int .i64) w A n xs) (j : Nat) (x : Int) (hj : xs[j]? = some x) : ∃ ad, A = some ad ∧ w.cell? (ad.add j) = some (.int .i64 x) := by
 obtain ⟨ad, c, e, hK, hu⟩ := C_nth h j x hj
 obtain rfl : c = [.int .i64 x] := hK
 have := hu 0 _ rfl
 rw [show j * (Kd.int .i64).sz + 0 = j from Nat.mul_one _] at this
 exact ⟨ad, e, this⟩
theorem list_at {w : World} {A : Option Addr} {n : Nat} {xs : List (List Int)} (h : Kd.C (Kd.slice 3 (Kd.int .i64)) w A n xs) (j : Nat) (x : List Int) (hj : xs[j]? = some x) : ∃ ad A' c', A = some ad ∧ w.cell? (ad.add j) = some (.slice A' x.length c') ∧ x.length ≤ c' ∧ Kd.C (Kd.int .i64) w A' x.length x := by
 obtain ⟨ad, c, e, ⟨A', c', rfl, h1, h2⟩, hu⟩ := C_nth h j x hj
 have := hu 0 _ rfl
 rw [show j * (Kd.slice 3 (Kd.int .i64)).sz + 0 = j from Nat.mul_one _] at this
 exact ⟨ad, A', c', e, this, h1, h2⟩

set_option maxHeartbeats 1000000 in
theorem indexFunc_int (g : Nat) (lb : Array Value) (eg : ∀ args w, (callFunc g args).run Tryd.prog w = .ok (.enter g args) w) (p : Int → Bool) (A : Option Addr) (c : Nat) (l : List Int) (w : World)
  (hr : Kd.C (Kd.int .i64) w A l.length l) (hp : ∀ (W : World) (x : Int), Below w.heap.size w W → x ∈ l → Calls Tryd.prog g (#[.int .i64 x] ++ lb) W fun e w' => e = .returned (.bool (p x)) ∧ Below W.heap.size W w') :
  Calls Tryd.prog 112 #[.slice A l.length c, .func (.func g) #[] lb] w fun e w' => e = .returned (.int .i64 (idx p l)) ∧ Below w.heap.size w w' := by
 have hbig := C_bound hr
 have HR := Aside0.mk hr
 have HP := Aside0.mk hp
 clear hr hp
 go_enter Tryd.func112, Tryd.ntmps112
 go_wp2
 go_loopg [5, 8] l.length (fun gg _ s8 wr => ∃ kk : Nat, kk ≤ l.length ∧ l.length - kk ≤ gg ∧ s8 = .int .i64 kk ∧ Aside0 (Below w.heap.size w wr) ∧ Aside0 (∀ (j : Nat) (y : Int), j < kk → l[j]? = some y → p y = false))
 case atStart => exact ⟨0, Nat.zero_le _, by omega, rfl, ⟨Below.refl _ w⟩, ⟨fun j y hj => absurd hj (Nat.not_lt_zero _)⟩⟩
 case round =>
  obtain ⟨kk, hkk, hg, rfl, BW, AA⟩ := hrel
  by_cases hlt : kk < l.length
  ·have hltz : (kk : Int) < (l.length : Int) := by omega
   obtain ⟨ad, rfl, hcell⟩ := int_at (Kd.C_below HR.out BW.out) kk l[kk] (List.getElem?_eq_getElem hlt)
   have hcall := Aside0.mk (HP.out wr l[kk] BW.out (List.getElem_mem hlt))
   have hy : Aside0 (l[kk]? = some l[kk]) := ⟨List.getElem?_eq_getElem hlt⟩
   generalize l[kk] = y at hcell hcall hy
   cases hq : p y with
   | true =>
    have HQ := Aside0.mk hq
    rw [hq] at hcall
    clear hq
    go_wp2_with fail
    refine hcall.out.mono ?_
    rintro e w' ⟨rfl, hb'⟩
    go_wp2_with fail
    go_ret
    exact ⟨by rw [idx_hit p l kk y hy.out HQ.out AA.out]; rfl, below_step BW.out hb'⟩
   | false =>
    have HQ := Aside0.mk hq
    rw [hq] at hcall
    clear hq
    go_wp2_with fail
    refine hcall.out.mono ?_
    rintro e w' ⟨rfl, hb'⟩
    go_wp2_with fail
    go_roundg (l.length - (kk + 1))
    case measure => omega
    case rel =>
     refine ⟨kk + 1, by omega, by omega, by go_num, ⟨below_step BW.out hb'⟩, ⟨fun j z hj hz => ?_⟩⟩
     by_cases e : j = kk
     ·subst e
      rw [hy.out] at hz
      cases hz
      exact HQ.out
     ·exact AA.out j z (by omega) hz
  ·have hltz : ¬ (kk : Int) < (l.length : Int) := by omega
   have : kk = l.length := by omega
   subst this
   go_wp2
   go_ret
   exact ⟨by rw [idx_miss p l (fun j y hj => AA.out j y (List.getElem?_eq_some_iff.1 hj).1 hj)]; rfl, BW.out⟩

set_option maxHeartbeats 1000000 in
theorem containsFunc_int (g : Nat) (lb : Array Value) (eg : ∀ args w, (callFunc g args).run Tryd.prog w = .ok (.enter g args) w) (p : Int → Bool) (A : Option Addr) (c : Nat) (l : List Int) (w : World)
  (hr : Kd.C (Kd.int .i64) w A l.length l) (hp : ∀ (W : World) (x : Int), Below w.heap.size w W → x ∈ l → Calls Tryd.prog g (#[.int .i64 x] ++ lb) W fun e w' => e = .returned (.bool (p x)) ∧ Below W.heap.size W w') :
  Calls Tryd.prog 77 #[.slice A l.length c, .func (.func g) #[] lb] w fun e w' => e = .returned (.bool (l.any p)) ∧ Below w.heap.size w w' := by
 have HC := Aside0.mk (indexFunc_int g lb eg p A c l w hr hp)
 clear hr hp
 go_enter Tryd.func77, Tryd.ntmps77
 go_wp2_with fail
 refine HC.out.mono ?_
 rintro e w' ⟨rfl, hb'⟩
 go_wp2_with fail
 go_ret
 exact ⟨by rw [← idx_any]; rfl, hb'⟩

set_option maxHeartbeats 1000000 in
theorem indexFunc_list (g : Nat) (lb : Array Value) (eg : ∀ args w, (callFunc g args).run Tryd.prog w = .ok (.enter g args) w) (p : List Int → Bool) (A : Option Addr) (c : Nat) (l : List (List Int)) (w : World)
  (hr : Kd.C (Kd.slice 3 (Kd.int .i64)) w A l.length l) (hp : ∀ (W : World) (x : List Int) (A' : Option Addr) (c' : Nat), Below w.heap.size w W → x ∈ l → Kd.C (Kd.int .i64) W A' x.length x → x.length ≤ c' → Calls Tryd.prog g (#[.slice A' x.length c'] ++ lb) W fun e w' => e = .returned (.bool (p x)) ∧ Below W.heap.size W w') :
  Calls Tryd.prog 113 #[.slice A l.length c, .func (.func g) #[] lb] w fun e w' => e = .returned (.int .i64 (idx p l)) ∧ Below w.heap.size w w' := by
 have hbig := C_bound hr
 have HR := Aside0.mk hr
 have HP := Aside0.mk hp
 clear hr hp
 go_enter Tryd.func113, Tryd.ntmps113
 go_wp2
 go_loopg [5, 8] l.length (fun gg _ s8 wr => ∃ kk : Nat, kk ≤ l.length ∧ l.length - kk ≤ gg ∧ s8 = .int .i64 kk ∧ Aside0 (Below w.heap.size w wr) ∧ Aside0 (∀ (j : Nat) (y : List Int), j < kk → l[j]? = some y → p y = false))
 case atStart => exact ⟨0, Nat.zero_le _, by omega, rfl, ⟨Below.refl _ w⟩, ⟨fun j y hj => absurd hj (Nat.not_lt_zero _)⟩⟩
 case round =>
  obtain ⟨kk, hkk, hg, rfl, BW, AA⟩ := hrel
  by_cases hlt : kk < l.length
  ·have hltz : (kk : Int) < (l.length : Int) := by omega
   obtain ⟨ad, A', c', rfl, hcell, h1, h2⟩ := list_at (Kd.C_below HR.out BW.out) kk l[kk] (List.getElem?_eq_getElem hlt)
   have hcall := Aside0.mk (HP.out wr l[kk] A' c' BW.out (List.getElem_mem hlt) h2 h1)
   clear h1 h2
   have hy : Aside0 (l[kk]? = some l[kk]) := ⟨List.getElem?_eq_getElem hlt⟩
   generalize l[kk] = y at hcell hcall hy
   cases hq : p y with
   | true =>
    have HQ := Aside0.mk hq
    rw [hq] at hcall
    clear hq
    go_wp2_with fail
    refine hcall.out.mono ?_
    rintro e w' ⟨rfl, hb'⟩
    go_wp2_with fail
    go_ret
    exact ⟨by rw [idx_hit p l kk y hy.out HQ.out AA.out]; rfl, below_step BW.out hb'⟩
   | false =>
    have HQ := Aside0.mk hq
    rw [hq] at hcall
    clear hq
    go_wp2_with fail
    refine hcall.out.mono ?_
    rintro e w' ⟨rfl, hb'⟩
    go_wp2_with fail
    go_roundg (l.length - (kk + 1))
    case measure => omega
    case rel =>
     refine ⟨kk + 1, by omega, by omega, by go_num, ⟨below_step BW.out hb'⟩, ⟨fun j z hj hz => ?_⟩⟩
     by_cases e : j = kk
     ·subst e
      rw [hy.out] at hz
      cases hz
      exact HQ.out
     ·exact AA.out j z (by omega) hz
  ·have hltz : ¬ (kk : Int) < (l.length : Int) := by omega
   have : kk = l.length := by omega
   subst this
   go_wp2
   go_ret
   exact ⟨by rw [idx_miss p l (fun j y hj => AA.out j y (List.getElem?_eq_some_iff.1 hj).1 hj)]; rfl, BW.out⟩

set_option maxHeartbeats 1000000 in
theorem containsFunc_list (g : Nat) (lb : Array Value) (eg : ∀ args w, (callFunc g args).run Tryd.prog w = .ok (.enter g args) w) (p : List Int → Bool) (A : Option Addr) (c : Nat) (l : List (List Int)) (w : World)
  (hr : Kd.C (Kd.slice 3 (Kd.int .i64)) w A l.length l) (hp : ∀ (W : World) (x : List Int) (A' : Option Addr) (c' : Nat), Below w.heap.size w W → x ∈ l → Kd.C (Kd.int .i64) W A' x.length x → x.length ≤ c' → Calls Tryd.prog g (#[.slice A' x.length c'] ++ lb) W fun e w' => e = .returned (.bool (p x)) ∧ Below W.heap.size W w') :
  Calls Tryd.prog 79 #[.slice A l.length c, .func (.func g) #[] lb] w fun e w' => e = .returned (.bool (l.any p)) ∧ Below w.heap.size w w' := by
 have HC := Aside0.mk (indexFunc_list g lb eg p A c l w hr hp)
 clear hr hp
 go_enter Tryd.func79, Tryd.ntmps79
 go_wp2_with fail
 refine HC.out.mono ?_
 rintro e w' ⟨rfl, hb'⟩
 go_wp2_with fail
 go_ret
 exact ⟨by rw [← idx_any]; rfl, hb'⟩
end Go.Proofs.YtfonajakaimnoaaDoor.Fn

namespace Go.Proofs.YtfonajakaimnoaaDoor.Lib
open Go.RowKit Go.Proofs.YtfonajakaimnoaaDoorW.PrintWords Go.Proofs.YtfonajakaimnoaaDoorW.PrintLast Go.Proofs.YtfonajakaimnoaaDoorW.PrintMore
attribute [local go_sem] max2_int min2_int max_two min_two max_three min_three max_four min_four   -- for this text's walks alone
set_option linter.unusedVariables false
set_option linter.unusedSimpArgs false

/-! ### places_all: function 80 -/
def places_all.f (l0_0 : List (List Int)) (l0_1 : List Int) (l0_2 : List Int) (l0_3 : List (List Int)) (a0_4 : Bool) : Option ((List (List Int))) := (some (([l0_1, l0_2] : List (List Int)) : List (List Int))).bind fun y275 => (if y275.length + l0_3.length < 5864062014805 then (some (y275 ++ l0_3)) else (none))
set_option maxHeartbeats 8000000 in
set_option maxRecDepth 100000 in
theorem places_all.calls (A0_0 : Option Addr) (c0_0 : Nat) (l0_0 : List (List Int)) (P0_1_ : Nat → Prop) (A0_1 : Option Addr) (c0_1 : Nat) (l0_1 : List Int) (P0_2_ : Nat → Prop) (A0_2 : Option Addr) (c0_2 : Nat) (l0_2 : List Int) (P0_3_ : Nat → Prop) (A0_3 : Option Addr) (c0_3 : Nat) (l0_3 : List (List Int)) (a0_4 : Bool) (r : List (List Int)) (w : World) (hr0_0 : Kd.C (Kd.slice 3 (Kd.int .i64)) w A0_0 l0_0.length l0_0) (hc0_0 : l0_0.length ≤ c0_0) (hs0_1 : Kd.V (Kd.int .i64) 3 w w.heap.size (fun k_ => P0_1_ k_) (.slice A0_1 l0_1.length c0_1) l0_1) (hs0_2 : Kd.V (Kd.int .i64) 3 w w.heap.size (fun k_ => P0_2_ k_) (.slice A0_2 l0_2.length c0_2) l0_2) (hs0_3 : Kd.V (Kd.slice 3 (Kd.int .i64)) 25 w w.heap.size (fun k_ => P0_3_ k_) (.slice A0_3 l0_3.length c0_3) l0_3) (h : places_all.f l0_0 l0_1 l0_2 l0_3 a0_4 = some r) :
  Calls Tryd.prog 80 #[.agg #[.slice A0_0 l0_0.length c0_0, .slice A0_1 l0_1.length c0_1, .slice A0_2 l0_2.length c0_2, .slice A0_3 l0_3.length c0_3, .bool a0_4]] w fun e w' => ∃ v0_ : Value, e = .returned (v0_) ∧ Kd.N (Kd.slice 3 (Kd.int .i64)) 25 w' w.heap.size (fun k_ => ((P0_1_ k_ ∨ P0_2_ k_ ∨ P0_3_ k_) ∨ w.heap.size ≤ k_)) v0_ r ∧ Below w.heap.size w w' := by
 have hu42 := Tryd.underlying42
 have HR0_0 := Aside0.mk hr0_0
 have HC0_0 := Aside0.mk hc0_0
 clear hr0_0 hc0_0
 have HO0_1 := Aside0.mk (show Kd.V (Kd.int .i64) 3 w w.heap.size (fun k_ => ((P0_1_ k_ ∨ P0_2_ k_ ∨ P0_3_ k_) ∨ w.heap.size ≤ k_)) (.slice A0_1 l0_1.length c0_1) l0_1 from Kd.V_mono hs0_1 (fun k_ hk => .inl (.inl hk)))
 have HO0_2 := Aside0.mk (show Kd.V (Kd.int .i64) 3 w w.heap.size (fun k_ => ((P0_1_ k_ ∨ P0_2_ k_ ∨ P0_3_ k_) ∨ w.heap.size ≤ k_)) (.slice A0_2 l0_2.length c0_2) l0_2 from Kd.V_mono hs0_2 (fun k_ hk => .inl (.inr (.inl hk))))
 have HO0_3 := Aside0.mk (show Kd.V (Kd.slice 3 (Kd.int .i64)) 25 w w.heap.size (fun k_ => ((P0_1_ k_ ∨ P0_2_ k_ ∨ P0_3_ k_) ∨ w.heap.size ≤ k_)) (.slice A0_3 l0_3.length c0_3) l0_3 from Kd.V_mono hs0_3 (fun k_ hk => .inl (.inr (.inr hk))))
 have HB := Aside0.mk (Below.refl w.heap.size w)
 have H : ((some (([l0_1, l0_2] : List (List Int)) : List (List Int))).bind fun y275 => (if y275.length + l0_3.length < 5864062014805 then (some (y275 ++ l0_3)) else (none))) = some r := h
 clear h
 obtain ⟨y275, hy275⟩ : ∃ y_ : List (List Int), y_ = (([l0_1, l0_2] : List (List Int))) := ⟨_, rfl⟩
 replace H : (if y275.length + l0_3.length < 5864062014805 then (some (y275 ++ l0_3)) else (none)) = some r := by first | (rw [hy275]; with_reducible exact H) | (have H2_ := (Option.bind_some _ _).symm.trans H; rw [hy275]; with_reducible exact H2_) | (have H2_ := (Option.bind_some _ _).symm.trans H; with_reducible exact H2_) | with_reducible exact H | (rw [hy275]; exact H) | exact H
 have Ny275 := Aside0.mk hy275
 clear hy275
 by_cases c2 : y275.length + l0_3.length < 5864062014805
 ·rw [if_pos c2] at H
  have LMc2 := Aside0.mk c2
  clear c2
  obtain ⟨y278, hy278⟩ : ∃ y_ : List (List Int), y_ = (y275 ++ l0_3) := ⟨_, rfl⟩
  replace H : (some y278) = some r := by first | (rw [hy278]; with_reducible exact H) | (have H2_ := (Option.bind_some _ _).symm.trans H; rw [hy278]; with_reducible exact H2_) | (have H2_ := (Option.bind_some _ _).symm.trans H; with_reducible exact H2_) | with_reducible exact H | (rw [hy278]; exact H) | exact H
  have Ny278 := Aside0.mk hy278
  clear hy278
  obtain rfl := Option.some.inj H
  go_enter Tryd.func80, Tryd.ntmps80
  go_wp2_with (first | ((with_reducible refine gate_dst (N := 1) rfl ?_); refine box_event ?hg (N := 1) ?hd (cs := #[.slice A0_0 l0_0.length c0_0, .slice A0_1 l0_1.length c0_1, .slice A0_2 l0_2.length c0_2, .slice A0_3 l0_3.length c0_3, .bool a0_4]) (t := 42) ?hr ?_; (case hd => rfl); (case hg => rfl); (case hr => first | (go_simp; done) | (go_simp; rfl)); intro gb274 hg w3 hbox hb; have n0_ := Aside0.mk (Kd.V_below (Kd.V_elderB (by (with_reducible repeat (first | apply Kd.V_alloc | apply Kd.V_drewN | apply Kd.V_drew)); exact HO0_1.out) gb274 (Nat.le_of_eq hg.symm)) hb); have n1_ := Aside0.mk (Kd.V_below (Kd.V_elderB (by (with_reducible repeat (first | apply Kd.V_alloc | apply Kd.V_drewN | apply Kd.V_drew)); exact HO0_2.out) gb274 (Nat.le_of_eq hg.symm)) hb); have n2_ := Aside0.mk (Kd.V_below (Kd.V_elderB (by (with_reducible repeat (first | apply Kd.V_alloc | apply Kd.V_drewN | apply Kd.V_drew)); exact HO0_3.out) gb274 (Nat.le_of_eq hg.symm)) hb); have n3_ := Aside0.mk (below_step (by repeat (first | (with_reducible first | exact HB.out | apply below_alloc | apply pw_below_drewN | apply below_drew1) | exact HB.out)) hb); have n4_ := Aside0.mk (hbox); have n5_ := Aside0.mk ((by rw [hg]; exact (below_size (by repeat (first | (with_reducible first | exact HB.out | apply below_alloc | apply pw_below_drewN | apply below_drew1) | exact HB.out))) : w.heap.size ≤ gb274)); have n6_ := Aside0.mk ((by rw [hg]; exact (below_size (by repeat (first | (with_reducible first | exact HB.out | apply below_alloc | apply pw_below_drewN | apply below_drew1) | exact HB.out))) : w.heap.size ≤ gb274)); clear HO0_1; clear HO0_2; clear HO0_3; clear HB; have HO0_1 := n0_; have HO0_2 := n1_; have HO0_3 := n2_; have HB := n3_; have BK274 := n4_; have GW274 := n5_; have GE274 := n6_; clear n0_ n1_ n2_ n3_ n4_ n5_ n6_; clear hb hbox hg; have hcz4_0 : w3.cell? ⟨gb274, 0, none⟩ = some (.slice A0_0 l0_0.length c0_0) := (blk_cell BK274.out 0).trans rfl; have hcz4_1 : w3.cell? ⟨gb274, 1, none⟩ = some (.slice A0_1 l0_1.length c0_1) := (blk_cell BK274.out 1).trans rfl; have hcz4_2 : w3.cell? ⟨gb274, 2, none⟩ = some (.slice A0_2 l0_2.length c0_2) := (blk_cell BK274.out 2).trans rfl; have hcz4_3 : w3.cell? ⟨gb274, 3, none⟩ = some (.slice A0_3 l0_3.length c0_3) := (blk_cell BK274.out 3).trans rfl; have hcz4_4 : w3.cell? ⟨gb274, 4, none⟩ = some (.bool a0_4) := (blk_cell BK274.out 4).trans rfl; have hfz4_0 := blk_frozen BK274.out 0; have hfz4_1 := blk_frozen BK274.out 1; have hfz4_2 := blk_frozen BK274.out 2; have hfz4_3 := blk_frozen BK274.out 3; have hfz4_4 := blk_frozen BK274.out 4) | ((with_reducible refine gate_dst (N := 7) rfl ?_); refine Kd.N_lit (Kd.slice 3 (Kd.int .i64)) _ 25 ?hg (N' := 7) ?hd (xs := ([l0_1, l0_2] : List (List Int))) (inner := [.slice A0_1 l0_1.length c0_1, .slice A0_2 l0_2.length c0_2]) (ok := (fun k_ => ((P0_1_ k_ ∨ P0_2_ k_ ∨ P0_3_ k_) ∨ w.heap.size ≤ k_) ∧ k_ ≠ gb274)) (okp := (fun k_ => ((P0_1_ k_ ∨ P0_2_ k_ ∨ P0_3_ k_) ∨ w.heap.size ≤ k_) ∧ k_ ≠ gb274)) ?hr ?hp (fun _ hk => hk) ((show ∀ k_, w3.heap.size ≤ k_ → (fun k_ => ((P0_1_ k_ ∨ P0_2_ k_ ∨ P0_3_ k_) ∨ w.heap.size ≤ k_) ∧ k_ ≠ gb274) k_ from fun k_ hk => ⟨(.inr (Nat.le_trans (below_size (by repeat (first | (with_reducible first | exact HB.out | apply below_alloc | apply pw_below_drewN | apply below_drew1 | refine below_set ?_ GE274.out) | exact HB.out))) hk)), Kd.freshB (g := gb274) (o := .cells #[.slice A0_0 l0_0.length c0_0, .slice A0_1 l0_1.length c0_1, .slice A0_2 l0_2.length c0_2, .slice A0_3 l0_3.length c0_3, .bool a0_4] 42 (0, 0)) (by (with_reducible repeat (first | refine blk_drewN ?_ _ | refine blk_drew ?_ | refine blk_alloc ?_ _)); exact BK274.out) k_ hk⟩) _ (Nat.le_refl _)) (Below.refl _ _) (Nat.le_refl _) (by simp) ?_; (case hd => rfl); (case hg => rfl); (case hr => first | (go_simp; done) | (go_simp; rfl)); (case hp => exact (Reps.one (show Kd.FK (Kd.slice 3 (Kd.int .i64)) _ _ l0_1 [.slice A0_1 l0_1.length c0_1] from (Kd.FK_slice_mk (Kd.V_reads' (Kd.V_mono (ok' := (fun k_ => ((P0_1_ k_ ∨ P0_2_ k_ ∨ P0_3_ k_) ∨ w.heap.size ≤ k_) ∧ k_ ≠ gb274)) (HO0_1.out) (fun k_ hk => ⟨hk.1, hk.2⟩))).2.1 (Kd.V_F (Kd.V_mono (ok' := (fun k_ => ((P0_1_ k_ ∨ P0_2_ k_ ∨ P0_3_ k_) ∨ w.heap.size ≤ k_) ∧ k_ ≠ gb274)) (HO0_1.out) (fun k_ hk => ⟨hk.1, hk.2⟩))))) (Reps.one (show Kd.FK (Kd.slice 3 (Kd.int .i64)) _ _ l0_2 [.slice A0_2 l0_2.length c0_2] from (Kd.FK_slice_mk (Kd.V_reads' (Kd.V_mono (ok' := (fun k_ => ((P0_1_ k_ ∨ P0_2_ k_ ∨ P0_3_ k_) ∨ w.heap.size ≤ k_) ∧ k_ ≠ gb274)) (HO0_2.out) (fun k_ hk => ⟨hk.1, hk.2⟩))).2.1 (Kd.V_F (Kd.V_mono (ok' := (fun k_ => ((P0_1_ k_ ∨ P0_2_ k_ ∨ P0_3_ k_) ∨ w.heap.size ≤ k_) ∧ k_ ≠ gb274)) (HO0_2.out) (fun k_ hk => ⟨hk.1, hk.2⟩))))) (Reps.none _ _)))); intro v276 w5 ho6 hb hg_ hnew_; clear hg_ hnew_; (first | rw [← Ny275.out] at ho6 | (simp only [Int.reduceToNat] at ho6; rw [← Ny275.out] at ho6)); have n0_ := Aside0.mk (Kd.V_elder' (by (with_reducible repeat (first | apply Kd.V_alloc | apply Kd.V_drewN | apply Kd.V_drew)); exact HO0_1.out) (Kd.N_base ho6) hb); have n1_ := Aside0.mk (Kd.V_elder' (by (with_reducible repeat (first | apply Kd.V_alloc | apply Kd.V_drewN | apply Kd.V_drew)); exact HO0_2.out) (Kd.N_base ho6) hb); have n2_ := Aside0.mk (Kd.V_elder' (by (with_reducible repeat (first | apply Kd.V_alloc | apply Kd.V_drewN | apply Kd.V_drew)); exact HO0_3.out) (Kd.N_base ho6) hb); have n3_ := Aside0.mk (Kd.N_lower ho6 (below_size (by repeat (first | (with_reducible first | exact HB.out | apply below_alloc | apply pw_below_drewN | apply below_drew1 | refine below_set ?_ GE274.out) | exact HB.out)))); have n4_ := Aside0.mk (blk_below (g := gb274) (o := .cells #[.slice A0_0 l0_0.length c0_0, .slice A0_1 l0_1.length c0_1, .slice A0_2 l0_2.length c0_2, .slice A0_3 l0_3.length c0_3, .bool a0_4] 42 (0, 0)) (by (with_reducible repeat (first | refine blk_drewN ?_ _ | refine blk_drew ?_ | refine blk_alloc ?_ _)); exact BK274.out) hb); have n5_ := Aside0.mk (below_step (by repeat (first | (with_reducible first | exact HB.out | apply below_alloc | apply pw_below_drewN | apply below_drew1 | refine below_set ?_ GE274.out) | exact HB.out)) hb); clear HO0_1; clear HO0_2; clear HO0_3; clear BK274; clear HB; have HO0_1 := n0_; have HO0_2 := n1_; have HO0_3 := n2_; have HO277 := n3_; have BK274 := n4_; have HB := n5_; clear n0_ n1_ n2_ n3_ n4_ n5_; clear hb ho6; have hcz7_0 : w5.cell? ⟨gb274, 0, none⟩ = some (.slice A0_0 l0_0.length c0_0) := (blk_cell BK274.out 0).trans rfl; have hcz7_1 : w5.cell? ⟨gb274, 1, none⟩ = some (.slice A0_1 l0_1.length c0_1) := (blk_cell BK274.out 1).trans rfl; have hcz7_2 : w5.cell? ⟨gb274, 2, none⟩ = some (.slice A0_2 l0_2.length c0_2) := (blk_cell BK274.out 2).trans rfl; have hcz7_3 : w5.cell? ⟨gb274, 3, none⟩ = some (.slice A0_3 l0_3.length c0_3) := (blk_cell BK274.out 3).trans rfl; have hcz7_4 : w5.cell? ⟨gb274, 4, none⟩ = some (.bool a0_4) := (blk_cell BK274.out 4).trans rfl; have hfz7_0 := blk_frozen BK274.out 0; have hfz7_1 := blk_frozen BK274.out 1; have hfz7_2 := blk_frozen BK274.out 2; have hfz7_3 := blk_frozen BK274.out 3; have hfz7_4 := blk_frozen BK274.out 4) | ((with_reducible refine gate_builtin (b := .append) (xs := #[.tmp 7, .tmp 9]) rfl ?_); at_builtin; refine Kd.N_append_rows (Kd.slice 3 (Kd.int .i64)) (w0 := w) w.heap.size rfl (.tmp 7) (.tmp 9) 22 25 (.slice none 0 0) 24 rfl Tryd.underlying22 info25 rfl (by decide) (by omega) v276 y275 l0_3 _ _ _ (fun k_ => ((P0_1_ k_ ∨ P0_2_ k_ ∨ P0_3_ k_) ∨ w.heap.size ≤ k_) ∧ k_ ≠ gb274) (fun k_ => ((fun k_ => ((P0_1_ k_ ∨ P0_2_ k_ ∨ P0_3_ k_) ∨ w.heap.size ≤ k_) ∧ k_ ≠ gb274)) k_ ∧ some k_ ≠ (v276 : Value).ownBlock) rfl rfl ?aO ?aR (fun _ hk => hk) ?aF ?aB ?aS ?aL ?_; (case aR => exact (by skip; exact Kd.V_F (Kd.V_mono (ok' := (fun k_ => ((fun k_ => ((P0_1_ k_ ∨ P0_2_ k_ ∨ P0_3_ k_) ∨ w.heap.size ≤ k_) ∧ k_ ≠ gb274)) k_ ∧ some k_ ≠ (v276 : Value).ownBlock)) (HO0_3.out) (fun k_ hk => ⟨⟨hk.1.1, hk.1.2⟩, hk.2⟩)))); (case aB => exact (by repeat (first | (with_reducible first | exact HB.out | apply below_alloc | apply pw_below_drewN | apply below_drew1 | refine below_set ?_ GE274.out) | exact HB.out))); (case aF => exact (fun k_ hk => ⟨(.inr (Nat.le_trans (below_size (by repeat (first | (with_reducible first | exact HB.out | apply below_alloc | apply pw_below_drewN | apply below_drew1 | refine below_set ?_ GE274.out) | exact HB.out))) hk)), Kd.freshB (g := gb274) (o := .cells #[.slice A0_0 l0_0.length c0_0, .slice A0_1 l0_1.length c0_1, .slice A0_2 l0_2.length c0_2, .slice A0_3 l0_3.length c0_3, .bool a0_4] 42 (0, 0)) (by (with_reducible repeat (first | refine blk_drewN ?_ _ | refine blk_drew ?_ | refine blk_alloc ?_ _)); exact BK274.out) k_ hk⟩)); (case aO => exact (by (with_reducible repeat (first | apply Kd.N_alloc | apply Kd.N_drewN | apply Kd.N_drew)); exact HO277.out)); (case aS => exact (below_size (by repeat (first | (with_reducible first | exact HB.out | apply below_alloc | apply pw_below_drewN | apply below_drew1 | refine below_set ?_ GE274.out) | exact HB.out)))); (case aL => have := LMc2.out; omega); intro v279 w8 ho hb hg hat; rw [← Ny278.out] at ho; have n0_ := Aside0.mk (Kd.V_afterv (ok := (fun k_ => ((P0_1_ k_ ∨ P0_2_ k_ ∨ P0_3_ k_) ∨ w.heap.size ≤ k_) ∧ k_ ≠ gb274)) (by (with_reducible repeat (first | apply Kd.V_alloc | apply Kd.V_drewN | apply Kd.V_drew)); exact HO0_1.out) hg hat); have n1_ := Aside0.mk (Kd.V_afterv (ok := (fun k_ => ((P0_1_ k_ ∨ P0_2_ k_ ∨ P0_3_ k_) ∨ w.heap.size ≤ k_) ∧ k_ ≠ gb274)) (by (with_reducible repeat (first | apply Kd.V_alloc | apply Kd.V_drewN | apply Kd.V_drew)); exact HO0_2.out) hg hat); have n2_ := Aside0.mk (Kd.V_afterv (ok := (fun k_ => ((P0_1_ k_ ∨ P0_2_ k_ ∨ P0_3_ k_) ∨ w.heap.size ≤ k_) ∧ k_ ≠ gb274)) (by (with_reducible repeat (first | apply Kd.V_alloc | apply Kd.V_drewN | apply Kd.V_drew)); exact HO0_3.out) hg hat); have n3_ := Aside0.mk (blk_grown (g := gb274) (o := .cells #[.slice A0_0 l0_0.length c0_0, .slice A0_1 l0_1.length c0_1, .slice A0_2 l0_2.length c0_2, .slice A0_3 l0_3.length c0_3, .bool a0_4] 42 (0, 0)) (by (with_reducible repeat (first | refine blk_drewN ?_ _ | refine blk_drew ?_ | refine blk_alloc ?_ _)); exact BK274.out) hg (Kd.N_ne HO277.out BK274.out (by decide))); have n4_ := Aside0.mk (hb); have n5_ := Aside0.mk (ho); clear HO0_1; clear HO0_2; clear HO0_3; clear BK274; clear HB; clear HO277; have HO0_1 := n0_; have HO0_2 := n1_; have HO0_3 := n2_; have BK274 := n3_; have HB := n4_; have HO280 := n5_; clear n0_ n1_ n2_ n3_ n4_ n5_; clear ho hb hg hat))
  go_ret
  exact ⟨_, by first | rfl | (simp [errW_none, errW_some] <;> rfl) | (simp [*, errW_none, errW_some] <;> rfl), by (with_reducible repeat (first | apply Kd.N_alloc | apply Kd.N_drewN | apply Kd.N_drew)); exact Kd.N_mono HO280.out (fun _ hk => hk.1), by repeat (first | (with_reducible first | exact HB.out | apply below_alloc | apply pw_below_drewN | apply below_drew1 | refine below_set ?_ GE274.out) | exact HB.out)⟩
 ·rw [if_neg c2] at H
  exact absurd H (by simp)

end Go.Proofs.YtfonajakaimnoaaDoor.Lib

/- places.placed, slices.Clone at numbers: what they come to. -/
namespace Go.Proofs.YtfonajakaimnoaaDoor.C11
open Go.RowKit Go.Proofs.YtfonajakaimnoaaDoorW.PrintWords Go.Proofs.YtfonajakaimnoaaDoorW.PrintLast Go.Proofs.YtfonajakaimnoaaDoorW.PrintMore Go.Proofs.YtfonajakaimnoaaDoor.Lib Lent Go.Proofs.YtfonajakaimnoaaDoor.Fn Go.Shelf
attribute [local go_sem] max2_int min2_int max_two min_two max_three min_three max_four min_four

abbrev LL := List (List Int)
abbrev kI : Kd Int := Kd.int .i64
abbrev kL : Kd (List Int) := Kd.slice 3 (Kd.int .i64)
def wrongB (n : Nat) (x : Int) : Bool := decide (x < 0) || decide (x ≥ (n : Int))
def placedB (L : LL) (F La : List Int) (Fo : LL) : Bool := decide (Fo.length = L.length) && !((F :: La :: Fo).any (fun l => l.any (wrongB L.length)))

theorem wrong_calls (n : Nat) (B : Nat) (x : Int) (w : World) (hc : w.cell? ⟨B, 0, none⟩ = some (.int .i64 n)) :
  Calls Tryd.prog 109 (#[.int .i64 x] ++ #[.pointer (some ⟨B, 0, none⟩)]) w fun e w' => e = .returned (.bool (wrongB n x)) ∧ Below w.heap.size w w' := by
 by_cases h : x < 0
 ·have h1 : decide (x < 0) = true := by simpa using h
  go_enter Tryd.func109, Tryd.ntmps109
  go_wp2
  repeat (go_quiet (fail); try go_wp2)
  go_ret
  exact ⟨by simp [wrongB, h], by repeat (first | exact Below.refl _ _ | apply pw_below_drewN | apply below_drew1)⟩
 ·have h1 : decide (x < 0) = false := by simpa using h
  go_enter Tryd.func109, Tryd.ntmps109
  go_wp2
  repeat (go_quiet (fail); try go_wp2)
  go_ret
  exact ⟨by simp [wrongB, show ¬ x < 0 from by omega], by repeat (first | exact Below.refl _ _ | apply pw_below_drewN | apply below_drew1)⟩

theorem wrongs_calls (n : Nat) (B B2 : Nat) (A : Option Addr) (c : Nat) (l : List Int) (w : World) (hr : Kd.C kI w A l.length l) (hB : B < w.heap.size) (hc : w.cell? ⟨B, 0, none⟩ = some (.int .i64 n))
  (hc2 : w.cell? ⟨B2, 0, none⟩ = some (.func (.func 109) #[] #[.pointer (some ⟨B, 0, none⟩)])) :
  Calls Tryd.prog 110 (#[.slice A l.length c] ++ #[.pointer (some ⟨B2, 0, none⟩)]) w fun e w' => e = .returned (.bool (l.any (wrongB n))) ∧ Below w.heap.size w w' := by
 have HC := Aside0.mk (containsFunc_int 109 #[.pointer (some ⟨B, 0, none⟩)] (enters_of Tryd.func109 (by kernel_rfl) rfl) (wrongB n) A c l w hr
  (fun W x hb _ => wrong_calls n B x W ((hb.cell (p := ⟨B, 0, none⟩) hB).trans hc)))
 clear hr
 go_enter Tryd.func110, Tryd.ntmps110
 go_wp2_with fail
 refine HC.out.mono ?_
 rintro e w' ⟨rfl, hb'⟩
 go_wp2_with fail
 go_ret
 exact ⟨rfl, hb'⟩

set_option maxHeartbeats 1000000 in
theorem placed_calls (A0 : Option Addr) (c0 : Nat) (L : LL) (A1 : Option Addr) (c1 : Nat) (F : List Int) (A2 : Option Addr) (c2 : Nat) (La : List Int) (A3 : Option Addr) (c3 : Nat) (Fo : LL) (b : Bool) (w : World)
  (h0 : Kd.C kL w A0 L.length L ∧ L.length ≤ c0) (h1 : Kd.C kI w A1 F.length F ∧ F.length ≤ c1) (h2 : Kd.C kI w A2 La.length La ∧ La.length ≤ c2) (h3 : Kd.C kL w A3 Fo.length Fo ∧ Fo.length ≤ c3) (hlen : Fo.length ≤ 5864062014634) :
  Calls Tryd.prog 74 #[.agg #[.slice A0 L.length c0, .slice A1 F.length c1, .slice A2 La.length c2, .slice A3 Fo.length c3, .bool b]] w fun e w' => e = .returned (.bool (placedB L F La Fo)) ∧ Below w.heap.size w w' := by
 have hu := Tryd.underlying42
 have H0 := Aside0.mk h0
 have H1 := Aside0.mk h1
 have H2 := Aside0.mk h2
 have H3 := Aside0.mk h3
 clear h0 h1 h2 h3
 by_cases hl : Fo.length = L.length
 ·have hb1 : ((Fo.length : Int) == (L.length : Int)) = true := by rw [hl]; simp
  have hb2 : (Fo.length == L.length) = true := by rw [hl]; simp
  have HL := Aside0.mk hl
  have HN := Aside0.mk hlen
  clear hl hlen
  go_enter Tryd.func74, Tryd.ntmps74
  go_wp2_with fail
  have hbW := fun (o1 o2 o3 : Obj) => (below_alloc (below_alloc (below_alloc (Below.refl w.heap.size w) o1) o2) o3)
  refine (places_all.calls A0 c0 L (fun _ => True) A1 c1 F (fun _ => True) A2 c2 La (fun _ => True) A3 c3 Fo b (F :: La :: Fo) _ (Kd.C_below H0.out.1 (hbW _ _ _)) H0.out.2
   ⟨_, _, rfl, H1.out.2, Kd.F_mono (Kd.C_F (Kd.heap_int .i64) (Kd.C_below H1.out.1 (hbW _ _ _))) (fun _ _ => trivial)⟩
   ⟨_, _, rfl, H2.out.2, Kd.F_mono (Kd.C_F (Kd.heap_int .i64) (Kd.C_below H2.out.1 (hbW _ _ _))) (fun _ _ => trivial)⟩
   ⟨_, _, rfl, H3.out.2, Kd.F_mono (Kd.C_F (Kd.heap_slice 3 (Kd.heap_int .i64)) (Kd.C_below H3.out.1 (hbW _ _ _))) (fun _ _ => trivial)⟩
   (by unfold places_all.f; simp only [Option.bind_some]; rw [if_pos (by have := HN.out; simp; omega)]; rfl)).mono ?_
  rintro e w1 ⟨v, rfl, hv, hb⟩
  obtain ⟨Av, cv, rfl, hv1, hv2⟩ := Kd.N_reads hv
  obtain ⟨hc, hf⟩ := bcell hb
  have hz : w.heap.size + 1 + 1 < w1.heap.size := by have := hb.size; simp at this; omega
  have HB := Aside0.mk (below_step (hbW _ _ _) hb)
  have HV := Aside0.mk hv2
  clear hb hv hv1 hv2
  go_wp2_with fail
  refine (containsFunc_list 110 #[.pointer (some ⟨w.heap.size + 1 + 1, 0, none⟩)] (enters_of Tryd.func110 (by kernel_rfl) rfl) (fun l => l.any (wrongB L.length)) Av cv (F :: La :: Fo) w1 HV.out
   (fun W x A' c' hb hx hC hcx => wrongs_calls L.length (w.heap.size + 1) (w.heap.size + 1 + 1) A' c' x W hC (by have := hb.size; omega)
    ((hb.cell (p := ⟨w.heap.size + 1, 0, none⟩) (by show w.heap.size + 1 < _; omega)).trans ((hc (w.heap.size + 1) 0 (by simp)).trans (by go_simp)))
    ((hb.cell (p := ⟨w.heap.size + 1 + 1, 0, none⟩) hz).trans ((hc (w.heap.size + 1 + 1) 0 (by simp)).trans (by go_simp))))).mono ?_
  rintro e w2 ⟨rfl, hb⟩
  have HB2 := Aside0.mk (below_step HB.out hb)
  clear hb
  have hP : Aside0 (placedB L F La Fo = !((F :: La :: Fo).any (fun l => l.any (wrongB L.length)))) := ⟨by simp [placedB, HL.out]⟩
  generalize ((F :: La :: Fo).any (fun l => l.any (wrongB L.length))) = q at hP
  go_wp2_with fail
  go_ret
  exact ⟨by rw [hP.out]; rfl, HB2.out⟩
 ·have hb1 : ((Fo.length : Int) == (L.length : Int)) = false := by simp; omega
  have hb2 : (Fo.length == L.length) = false := by simpa using hl
  have hP : Aside0 (placedB L F La Fo = false) := ⟨by simp [placedB, hl]⟩
  clear hl hlen
  go_enter Tryd.func74, Tryd.ntmps74
  go_wp2
  repeat (go_quiet (fail); try go_wp2)
  go_ret
  exact ⟨by rw [hP.out]; rfl, by repeat (first | exact Below.refl _ _ | apply pw_below_drewN | apply below_drew1 | apply below_alloc)⟩
end Go.Proofs.YtfonajakaimnoaaDoor.C11

/- slices.Index and Contains at numbers: the world stays as it is. -/
namespace Go.Proofs.YtfonajakaimnoaaDoor.Fn
open Go.RowKit Go.Proofs.YtfonajakaimnoaaDoorW.PrintWords Go.Proofs.YtfonajakaimnoaaDoorW.PrintLast Go.Proofs.YtfonajakaimnoaaDoorW.PrintMore Go.Proofs.YtfonajakaimnoaaDoor.Lib Lent
attribute [local go_sem] max2_int min2_int max_two min_two max_three min_three max_four min_four

def isB (x : Int) (y : Int) : Bool := decide (x = y)
set_option maxHeartbeats 1000000 in
theorem index_calls (x : Int) (A : Option Addr) (c : Nat) (l : List Int) (w : World) (hr : Kd.C (Kd.int .i64) w A l.length l) :
  Calls Tryd.prog 111 #[.slice A l.length c, .int .i64 x] w fun e w' => e = .returned (.int .i64 (idx (isB x) l)) ∧ w = w' := by
 have hbig := C_bound hr
 have HR := Aside0.mk hr
 clear hr
 go_enter Tryd.func111, Tryd.ntmps111
 go_wp2
 go_loopg [5, 8] l.length (fun gg _ s8 wr => ∃ kk : Nat, kk ≤ l.length ∧ l.length - kk ≤ gg ∧ s8 = .int .i64 kk ∧ w = wr ∧ Aside0 (∀ (j : Nat) (y : Int), j < kk → l[j]? = some y → isB x y = false))
 case atStart => exact ⟨0, Nat.zero_le _, by omega, rfl, rfl, ⟨fun j y hj => absurd hj (Nat.not_lt_zero _)⟩⟩
 case round =>
  obtain ⟨kk, hkk, hg, rfl, rfl, AA⟩ := hrel
  by_cases hlt : kk < l.length
  ·have hltz : (kk : Int) < (l.length : Int) := by omega
   obtain ⟨ad, rfl, hcell⟩ := int_at HR.out kk l[kk] (List.getElem?_eq_getElem hlt)
   have hy : Aside0 (l[kk]? = some l[kk]) := ⟨List.getElem?_eq_getElem hlt⟩
   generalize l[kk] = y at hcell hy
   by_cases hq : x = y
   ·have HQ : Aside0 (isB x y = true) := ⟨by simp [isB, hq]⟩
    have hb : (x == y) = true := by simpa using hq
    clear hq
    go_wp2
    go_ret
    exact ⟨by rw [idx_hit (isB x) l kk y hy.out HQ.out AA.out]; rfl, rfl⟩
   ·have HQ : Aside0 (isB x y = false) := ⟨by simp [isB, hq]⟩
    have hb : (x == y) = false := by simpa using hq
    clear hq
    go_wp2
    go_roundg (l.length - (kk + 1))
    case measure => omega
    case rel =>
     refine ⟨kk + 1, by omega, by omega, by go_num, rfl, ⟨fun j z hj hz => ?_⟩⟩
     by_cases e : j = kk
     ·subst e
      rw [hy.out] at hz
      cases hz
      exact HQ.out
     ·exact AA.out j z (by omega) hz
  ·have hltz : ¬ (kk : Int) < (l.length : Int) := by omega
   have : kk = l.length := by omega
   subst this
   go_wp2
   go_ret
   exact ⟨by rw [idx_miss (isB x) l (fun j y hj => AA.out j y (List.getElem?_eq_some_iff.1 hj).1 hj)]; rfl, rfl⟩
theorem contains_calls (x : Int) (A : Option Addr) (c : Nat) (l : List Int) (w : World) (hr : Kd.C (Kd.int .i64) w A l.length l) :
  Calls Tryd.prog 76 #[.slice A l.length c, .int .i64 x] w fun e w' => e = .returned (.bool (l.any (isB x))) ∧ w = w' := by
 have HC := Aside0.mk (index_calls x A c l w hr)
 clear hr
 go_enter Tryd.func76, Tryd.ntmps76
 go_wp2_with fail
 refine HC.out.mono ?_
 rintro e w' ⟨rfl, rfl⟩
 go_wp2_with fail
 go_ret
 exact ⟨by rw [← idx_any]; rfl, rfl⟩
end Go.Proofs.YtfonajakaimnoaaDoor.Fn

/- A region that draws its order, all of whose operations but the tail only read or call quietly: walked operation by operation, the guards decided by the kernel. -/
namespace Go.Proofs.YtfonajakaimnoaaDoor.Stl
open Go.RowKit

structure St (P : Program) (ops : Array Oper) (w : World) (Q : Act → Prop) (l : List Oper) (a : Act) : Prop where mk :: (out : wpStill P ops w Q l a)
variable {P : Program} {ops : Array Oper} {w : World} {Q : Act → Prop} {a : Act} {o : Oper} {rest : List Oper}
theorem St.skip (h : Region.wanted o (yielded ops a.tmps) = false) (hn : St P ops w Q rest (a.put o.dst undef)) : St P ops w Q (o :: rest) a := ⟨by
 unfold wpStill
 rw [if_neg (by simp [h])]
 exact hn.out⟩
theorem St.take (h : Region.wanted o (yielded ops a.tmps) = true) (hn : ∀ K : Act → Prop, (∀ a, St P ops w Q rest a → K a) → o.still P a w K) : St P ops w Q (o :: rest) a := ⟨by
 unfold wpStill
 rw [if_pos h]
 exact hn _ (fun _ h => h.out)⟩
theorem St.nil (h : Q a) : St P ops w Q [] a := ⟨h⟩

/-- The region, begun: n operations ahead of the tail. -/
theorem St.region {id : Nat} {Q : Exit → Act → World → Prop} {l : List Oper} (n : Nat) (hm : P.follows .mixedOrders = true) (hB : Region.lexTailB .any l.toArray n = true)
  (h : St P l.toArray w.drew (fun a' => wpList P l.toArray Q (l.drop n) a' w.drew) (l.take n) a) : (Code.region id l.toArray true).wp P Q a w :=
 wp_region_still_tail n hm hB h.out
end Go.Proofs.YtfonajakaimnoaaDoor.Stl

/- places.Match and its closures. -/
namespace Go.Proofs.YtfonajakaimnoaaDoor.C11
open Go.RowKit Go.Proofs.YtfonajakaimnoaaDoorW.PrintWords Go.Proofs.YtfonajakaimnoaaDoorW.PrintLast Go.Proofs.YtfonajakaimnoaaDoorW.PrintMore Go.Proofs.YtfonajakaimnoaaDoor.Lib Lent Go.Proofs.YtfonajakaimnoaaDoor.Fn Go.Shelf Go.Proofs.YtfonajakaimnoaaDoor.Stl
attribute [local go_sem] max2_int min2_int max_two min_two max_three min_three max_four min_four

/-- one place reached by a symbol -/
def hit (L : LL) (c : Int) (next : List Bool) (q : Int) : List Bool := next.set q.toNat (next.getD q.toNat false || (L.getD q.toNat []).any (isB c))
def reachL (L : LL) (c : Int) (next : List Bool) (l : List Int) : List Bool := l.foldl (hit L c) next

theorem hit_length (L : LL) (c : Int) (next : List Bool) (q : Int) : (hit L c next q).length = next.length := by simp [hit]
theorem reachL_length (L : LL) (c : Int) (next : List Bool) (l : List Int) : (reachL L c next l).length = next.length := by
 induction l generalizing next with
 | nil => rfl
 | cons x r ih => exact (ih _).trans (hit_length L c next x)
theorem reachL_snoc (L : LL) (c : Int) (next : List Bool) (l : List Int) (k : Nat) (x : Int) (h : l[k]? = some x) : reachL L c next (l.take (k + 1)) = hit L c (reachL L c next (l.take k)) x := by
 rw [List.take_add_one, h]
 simp [reachL, List.foldl_append]
theorem bools_at (xs : List Bool) (j : Nat) (h : j < xs.length) : (bools xs).toArray[j]? = some (.bool (xs.getD j false)) := by
 simp [bools, h, List.getD_eq_getElem?_getD]
theorem bools_set (xs : List Bool) (j : Nat) (b : Bool) : (bools xs).toArray.setIfInBounds j (.bool b) = (bools (xs.set j b)).toArray := by
 simp [bools, List.map_set]

set_option maxHeartbeats 1000000 in
set_option maxRecDepth 10000 in
theorem reach_calls (Bn g Bp Bc : Nat) (n : Nat) (A0 : Option Addr) (c0 : Nat) (L : LL) (c : Int) (next : List Bool) (A : Option Addr) (cl : Nat) (l : List Int) (w0 w : World)
  (hw : Below w0.heap.size w0 w) (hL : Kd.C kL w0 A0 L.length L) (hl : Kd.C kI w0 A l.length l) (hg0 : w0.heap.size ≤ g)
  (hn : w.cell? ⟨Bn, 0, none⟩ = some (.slice (some ⟨g, 0, none⟩) n n)) (hp : w.cell? ⟨Bp, 0, none⟩ = some (.slice A0 L.length c0)) (hc : w.cell? ⟨Bc, 0, none⟩ = some (.int .i64 c))
  (hng : Bn ≠ g) (hpg : Bp ≠ g) (hcg : Bc ≠ g) (hnl : next.length = n) (hLn : L.length = n) (hin : ∀ q ∈ l, 0 ≤ q ∧ q < (n : Int))
  (hrow : w.heap[g]? = some (.cells (bools next).toArray 4 (0, 0))) :
  Calls Tryd.prog 75 (#[.slice A l.length cl] ++ #[.pointer (some ⟨Bn, 0, none⟩), .pointer (some ⟨Bp, 0, none⟩), .pointer (some ⟨Bc, 0, none⟩)]) w fun e w' => e = .returned (.tuple #[]) ∧
   w'.heap[g]? = some (.cells (bools (reachL L c next l)).toArray 4 (0, 0)) ∧ w.heap.size ≤ w'.heap.size ∧ (∀ k, k < w.heap.size → k ≠ g → w'.heap[k]? = w.heap[k]?) ∧ Below w0.heap.size w0 w' := by
 have hu := Tryd.underlying42
 have HL := Aside0.mk hL
 have Hl := Aside0.mk hl
 have hbig := C_bound hl
 have HNL := Aside0.mk hnl
 have HLN := Aside0.mk hLn
 have HIN := Aside0.mk hin
 have HROW := Aside0.mk hrow
 have HCE := Aside0.mk (And.intro hn (And.intro hp hc))
 have HW0 := Aside0.mk hw
 clear hL hl hnl hLn hin hrow hn hp hc hw
 go_enter Tryd.func75, Tryd.ntmps75
 go_wp2_with fail
 go_loopg [9] l.length (fun gg v9 wr => ∃ (kk : Nat), kk ≤ l.length ∧ l.length - kk ≤ gg ∧ v9 = .int .i64 kk ∧ Aside0 (wr.heap[g]? = some (.cells (bools (reachL L c next (l.take kk))).toArray 4 (0, 0)) ∧ w.heap.size ≤ wr.heap.size ∧ (∀ k, k < w.heap.size → k ≠ g → wr.heap[k]? = w.heap[k]?) ∧ Below w0.heap.size w0 wr))
 case atStart => exact ⟨0, Nat.zero_le _, by omega, rfl, ⟨HROW.out, Nat.le_refl _, fun _ _ _ => rfl, HW0.out⟩⟩
 case round =>
  obtain ⟨kk, hkk, hg, rfl, HW⟩ := hrel
  have hc1 := fun (k o : Nat) (v : Value) (h1 : w.cell? ⟨k, o, none⟩ = some v) (h2 : k ≠ g) => (show wr.cell? ⟨k, o, none⟩ = some v from by
   have hlt := World.block_lt_of_cell? w _ h1
   simp only [World.cell?] at h1 ⊢
   rw [HW.out.2.2.1 k hlt h2]; exact h1)
  have hn' := hc1 _ _ _ HCE.out.1 hng
  have hp' := hc1 _ _ _ HCE.out.2.1 hpg
  have hc' := hc1 _ _ _ HCE.out.2.2 hcg
  clear hc1
  by_cases hlt : kk < l.length
  ·have hltz : (kk : Int) < (l.length : Int) := by omega
   obtain ⟨ad, rfl, hcell⟩ := int_at (Kd.C_below Hl.out HW.out.2.2.2) kk l[kk] (List.getElem?_eq_getElem hlt)
   have hy : Aside0 (l[kk]? = some l[kk]) := ⟨List.getElem?_eq_getElem hlt⟩
   have hq := HIN.out l[kk] (List.getElem_mem hlt)
   generalize l[kk] = q at hcell hy hq
   obtain ⟨q, rfl⟩ := Int.eq_ofNat_of_zero_le hq.1
   have hqn : q < n := by omega
   have hqz : (q : Int) < (n : Int) := by omega
   have hq0 : (0 : Int) ≤ (q : Int) := by omega
   have hNl : (reachL L c next (l.take kk)).length = n := (reachL_length _ _ _ _).trans HNL.out
   have hLn := HLN.out
   obtain ⟨ad2, A', c', rfl, hcell2, h1, h2⟩ := list_at (Kd.C_below HL.out HW.out.2.2.2) q (L.getD q []) (by rw [List.getD_eq_getElem?_getD, List.getElem?_eq_getElem (show q < L.length by omega)]; rfl)
   have hb : wr.cell? ⟨g, q, none⟩ = some (.bool ((reachL L c next (l.take kk)).getD q false)) := (blk_cell HW.out.1 q).trans (bools_at _ _ (by omega))
   have hfz : wr.frozen? ⟨g, q, none⟩ = false := blk_frozen HW.out.1 q
   have KC := Aside0.mk (contains_calls c A' c' (L.getD q []) wr.drew (Kd.C_drew h2))
   have HN : Aside0 (reachL L c next (l.take (kk + 1)) = (reachL L c next (l.take kk)).set q ((reachL L c next (l.take kk)).getD q false || (L.getD q []).any (isB c))) := ⟨reachL_snoc L c next l kk q hy.out⟩
   have HW' : Aside0 (∀ b, (wr.setCell ⟨g, q, none⟩ (.bool b)).heap[g]? = some (.cells (bools ((reachL L c next (l.take kk)).set q b)).toArray 4 (0, 0)) ∧ w.heap.size ≤ (wr.setCell ⟨g, q, none⟩ (.bool b)).heap.size ∧ (∀ k, k < w.heap.size → k ≠ g → (wr.setCell ⟨g, q, none⟩ (.bool b)).heap[k]? = w.heap[k]?) ∧ Below w0.heap.size w0 (wr.setCell ⟨g, q, none⟩ (.bool b))) := ⟨fun b =>
    ⟨(blk_set HW.out.1 q _).trans (by rw [bools_set]), by simpa [World.setCell] using HW.out.2.1, fun k hk hkg => (Below.heap_setCell wr ⟨g, q, none⟩ _ k hkg).trans (HW.out.2.2.1 k hk hkg), HW.out.2.2.2.setCell hg0 _⟩⟩
   have hqL : q < L.length := by omega
   clear h1 h2 hNl hLn hq
   generalize L.getD q [] = ls at hcell2 KC HN
   generalize hbb : (reachL L c next (l.take kk)).getD q false = bq at hb HN
   clear hbb
   cases bq with
   | true =>
    go_wp2_with fail
    refine St.region 16 (by kernel_rfl) (by kernel_rfl) ?_
    simp only [List.take_succ_cons, List.take_zero, List.drop_succ_cons, List.drop_zero]
    iterate 7 (refine St.take (by kernel_rfl) (fun K hK => ?_); go_simp; refine hK _ ?_; clear hK K)
    iterate 7 (refine St.skip (by kernel_rfl) ?_; simp only [Act.put, List.setIfInBounds_toArray, List.set_cons_zero, List.set_cons_succ])
    iterate 2 (refine St.take (by kernel_rfl) (fun K hK => ?_); go_simp; refine hK _ ?_; clear hK K)
    refine St.nil ?_
    go_wp2
    go_roundg (l.length - (kk + 1))
    case measure => omega
    case rel =>
     refine ⟨kk + 1, by omega, by omega, by go_num, ?_⟩
     rw [HN.out, Bool.true_or]
     exact ⟨⟨(HW'.out true).1, (HW'.out true).2.1, (HW'.out true).2.2.1, below_drew (HW'.out true).2.2.2⟩⟩
   | false =>
    go_wp2_with fail
    refine St.region 16 (by kernel_rfl) (by kernel_rfl) ?_
    simp only [List.take_succ_cons, List.take_zero, List.drop_succ_cons, List.drop_zero]
    iterate 13 (refine St.take (by kernel_rfl) (fun K hK => ?_); go_simp; refine hK _ ?_; clear hK K)
    refine St.take (by kernel_rfl) (fun K hK => ?_)
    go_simp
    refine ⟨_, KC.out.mono (fun e w' h => ⟨h.1, h.2.symm⟩), hK _ ?_⟩
    clear hK K
    iterate 2 (refine St.take (by kernel_rfl) (fun K hK => ?_); go_simp; refine hK _ ?_; clear hK K)
    refine St.nil ?_
    go_wp2
    go_roundg (l.length - (kk + 1))
    case measure => omega
    case rel =>
     refine ⟨kk + 1, by omega, by omega, by go_num, ?_⟩
     rw [HN.out, Bool.false_or]
     exact ⟨⟨(HW'.out (ls.any (isB c))).1, (HW'.out (ls.any (isB c))).2.1, (HW'.out (ls.any (isB c))).2.2.1, below_drew (HW'.out (ls.any (isB c))).2.2.2⟩⟩
  ·have hltz : ¬ (kk : Int) < (l.length : Int) := by omega
   obtain rfl : l.length = kk := by omega
   go_wp2
   go_end0
   rw [List.take_length] at HW
   exact ⟨rfl, HW.out⟩
end Go.Proofs.YtfonajakaimnoaaDoor.C11

/- places.Match. -/
namespace Go.Proofs.YtfonajakaimnoaaDoor.C11
open Go.RowKit Go.Proofs.YtfonajakaimnoaaDoorW.PrintWords Go.Proofs.YtfonajakaimnoaaDoorW.PrintLast Go.Proofs.YtfonajakaimnoaaDoorW.PrintMore Go.Proofs.YtfonajakaimnoaaDoor.Lib Lent Go.Proofs.YtfonajakaimnoaaDoor.Fn Go.Shelf Go.Proofs.YtfonajakaimnoaaDoor.Stl
attribute [local go_sem] max2_int min2_int max_two min_two max_three min_three max_four min_four

def inK (L Fo : LL) (c : Int) (now next : List Bool) : Nat → List Bool
 | 0 => next
 | k + 1 => if now.getD k false then reachL L c (inK L Fo c now next k) (Fo.getD k []) else inK L Fo c now next k
def begin (L : LL) (c : Int) (F : List Int) (k : Nat) : List Bool := if k = 0 then reachL L c (List.replicate L.length false) F else List.replicate L.length false
def atK (L : LL) (F : List Int) (Fo : LL) (word : List Int) : Nat → List Bool
 | 0 => List.replicate L.length false
 | k + 1 => inK L Fo (word.getD k 0) (atK L F Fo word k) (begin L (word.getD k 0) F k) L.length
def matchB (L : LL) (F La : List Int) (Fo : LL) (b : Bool) (word : List Int) : Bool :=
 placedB L F La Fo && (if word.length = 0 then b else La.any (fun q => (atK L F Fo word word.length).getD q.toNat false))
theorem inK_length (L Fo : LL) (c : Int) (now next : List Bool) (k : Nat) : (inK L Fo c now next k).length = next.length := by
 induction k with
 | zero => rfl
 | succ k ih =>
  simp only [inK]
  split
  ·rw [reachL_length, ih]
  ·exact ih
theorem begin_length (L : LL) (c : Int) (F : List Int) (k : Nat) : (begin L c F k).length = L.length := by
 unfold begin
 split
 ·rw [reachL_length, List.length_replicate]
 ·rw [List.length_replicate]
theorem atK_length (L : LL) (F : List Int) (Fo : LL) (word : List Int) (k : Nat) : (atK L F Fo word k).length = L.length := by
 cases k with
 | zero => simp [atK]
 | succ k => simp only [atK]; rw [inK_length, begin_length]

theorem is_calls (Bn g n : Nat) (now : List Bool) (q : Int) (w : World) (hn : w.cell? ⟨Bn, 0, none⟩ = some (.slice (some ⟨g, 0, none⟩) n n)) (hnl : now.length = n) (hq : 0 ≤ q ∧ q < (n : Int))
  (hrow : w.heap[g]? = some (.cells (bools now).toArray 4 (0, 0))) :
  Calls Tryd.prog 78 (#[.int .i64 q] ++ #[.pointer (some ⟨Bn, 0, none⟩)]) w fun e w' => e = .returned (.bool (now.getD q.toNat false)) ∧ Below w.heap.size w w' := by
 obtain ⟨q, rfl⟩ := Int.eq_ofNat_of_zero_le hq.1
 have hqn : q < n := by omega
 have hqz : (q : Int) < (n : Int) := by omega
 have hq0 : (0 : Int) ≤ (q : Int) := by omega
 have hb : w.cell? ⟨g, q, none⟩ = some (.bool (now.getD q false)) := (blk_cell hrow q).trans (bools_at _ _ (by omega))
 rw [show ((q : Int)).toNat = q from rfl]
 generalize now.getD q false = x at hb
 clear hrow
 go_enter Tryd.func78, Tryd.ntmps78
 go_wp2_with fail
 go_ret
 exact ⟨rfl, Below.refl _ _⟩

theorem infoBool : (Tryd.prog.info? 4).map (fun i => (i.zero, i.size, i.bytes)) = some (some (.bool false), 1, 1) := by kernel_rfl
theorem make_bools (n : Nat) (hn : n ≤ 5864062014634) (W : World) : (Instr.makeSlice 58 (.int .i64 n) (.int .i64 n)).run Tryd.prog W = .ok (.slice (some ⟨W.heap.size, 0, none⟩) n n) (W.alloc (.cells (bools (List.replicate n false)).toArray 4)) := by
 obtain ⟨i, hi, hz⟩ := Option.map_eq_some_iff.1 infoBool
 simp only [Prod.mk.injEq] at hz
 obtain ⟨z1, z2, z3⟩ := hz
 have h := run_make (P := Tryd.prog) W 58 4 i (.bool false) Tryd.underlying58 hi z1 .i64 .i64 (n : Int) (n : Int) (by omega) (by omega) (by rw [z3]; omega) (by omega)
 rw [h]
 have : (madeCells (Value.bool false).cells ((n : Int).toNat * i.size)) = (bools (List.replicate n false)).toArray := by
  rw [z2]
  apply Array.ext
  ·simp [size_madeCells, bools]
  ·intro j h1 h2
   simp [madeCells, bools, Value.cells, Nat.mod_one]
 rw [this]
 rfl

theorem placed_in {L : LL} {F La : List Int} {Fo : LL} (h : placedB L F La Fo = true) : Fo.length = L.length ∧ (∀ q ∈ F, 0 ≤ q ∧ q < (L.length : Int)) ∧ (∀ q ∈ La, 0 ≤ q ∧ q < (L.length : Int)) ∧ ∀ l ∈ Fo, ∀ q ∈ l, 0 ≤ q ∧ q < (L.length : Int) := by
 simp only [placedB, Bool.and_eq_true, decide_eq_true_eq, Bool.not_eq_true', List.any_cons, Bool.or_eq_false_iff] at h
 obtain ⟨h1, h2, h3, h4⟩ := h
 have key : ∀ l : List Int, l.any (wrongB L.length) = false → ∀ q ∈ l, 0 ≤ q ∧ q < (L.length : Int) := fun l hl q hq => by
  have := List.any_eq_false.1 hl q hq
  simp [wrongB] at this
  omega
 exact ⟨h1, key F h2, key La h3, fun l hl => key l (by simpa using List.any_eq_false.1 h4 l hl)⟩

/-- what stands while one symbol is read -/
structure Mid (w : World) (s b5 g r n : Nat) (A0 A1 A2 A3 : Value) (now : List Bool) (c : Int) (next : List Bool) (wc : World) : Prop where
 below : Below s w wc
 f0 : wc.cell? ⟨s, 0, none⟩ = some A0
 f1 : wc.cell? ⟨s, 1, none⟩ = some A1
 f2 : wc.cell? ⟨s, 2, none⟩ = some A2
 f3 : wc.cell? ⟨s, 3, none⟩ = some A3
 a5 : wc.heap[b5]? = some (.cells #[.slice (some ⟨g, 0, none⟩) n n] 58 (0, 0))
 row : wc.heap[g]? = some (.cells (bools now).toArray 4 (0, 0))
 a7 : wc.cell? ⟨r, 0, none⟩ = some (.int .i64 c)
 a8 : wc.cell? ⟨r + 1 + 1, 0, none⟩ = some (.slice (some ⟨r + 1, 0, none⟩) n n)
 new : wc.heap[r + 1]? = some (.cells (bools next).toArray 4 (0, 0))
 len : next.length = n
 big : r + 1 + 1 < wc.heap.size
 ps : s < r
 p5 : b5 < r
 pg : g < r
 ng : g ≠ b5
 s5 : s < b5
 sg : s < g

theorem Mid.step {w : World} {s b5 g r n : Nat} {A0 A1 A2 A3 : Value} {now : List Bool} {c : Int} {next : List Bool} {wc : World} (h : Mid w s b5 g r n A0 A1 A2 A3 now c next wc) {L : LL} {l : List Int} {wd : World}
  (h1 : wd.heap[r + 1]? = some (.cells (bools (reachL L c next l)).toArray 4 (0, 0))) (h2 : wc.heap.size ≤ wd.heap.size) (h3 : ∀ k, k < wc.heap.size → k ≠ r + 1 → wd.heap[k]? = wc.heap[k]?) (h4 : Below s w wd) :
  Mid w s b5 g r n A0 A1 A2 A3 now c (reachL L c next l) wd := by
 have hc : ∀ (k o : Nat) (v : Value), wc.cell? ⟨k, o, none⟩ = some v → k ≠ r + 1 → wd.cell? ⟨k, o, none⟩ = some v := fun k o v h1 h2 => by
  have hlt := World.block_lt_of_cell? wc _ h1
  simp only [World.cell?] at h1 ⊢
  rw [h3 k hlt h2]; exact h1
 have := h.ps
 have := h.p5
 have := h.pg
 have hg : g < wc.heap.size := by have := h.big; omega
 exact ⟨h4, hc _ _ _ h.f0 (by omega), hc _ _ _ h.f1 (by omega), hc _ _ _ h.f2 (by omega), hc _ _ _ h.f3 (by omega), (h3 b5 (by have := h.big; omega) (by omega)).trans h.a5, (h3 g hg (by omega)).trans h.row,
  hc _ _ _ h.a7 (by omega), hc _ _ _ h.a8 (by omega), h1, (reachL_length _ _ _ _).trans h.len, by have := h.big; omega, h.ps, h.p5, h.pg, h.ng, h.s5, h.sg⟩

/-- what stands between two symbols -/
structure Top (w : World) (s b5 g n : Nat) (A0 A1 A2 A3 : Value) (now : List Bool) (wc : World) : Prop where
 below : Below s w wc
 f0 : wc.cell? ⟨s, 0, none⟩ = some A0
 f1 : wc.cell? ⟨s, 1, none⟩ = some A1
 f2 : wc.cell? ⟨s, 2, none⟩ = some A2
 f3 : wc.cell? ⟨s, 3, none⟩ = some A3
 a5 : wc.heap[b5]? = some (.cells #[.slice (some ⟨g, 0, none⟩) n n] 58 (0, 0))
 row : wc.heap[g]? = some (.cells (bools now).toArray 4 (0, 0))
 ng : g ≠ b5
 s5 : s < b5
 sg : s < g

theorem Top.mid {w : World} {s b5 g n : Nat} {A0 A1 A2 A3 : Value} {now : List Bool} {wr : World} (h : Top w s b5 g n A0 A1 A2 A3 now wr) (hs : s = w.heap.size) (c : Int) :
  Mid w s b5 g wr.heap.size n A0 A1 A2 A3 now c (List.replicate n false)
   (((wr.alloc (.cells #[.int .i64 c] 3)).alloc (.cells (bools (List.replicate n false)).toArray 4)).alloc (.cells #[.slice (some ⟨wr.heap.size + 1, 0, none⟩) n n] 58)) := by
 subst hs
 have l5 := blk_lt h.a5
 have lg := blk_lt h.row
 have l5' : b5 < wr.heap.size + 1 := by omega
 have l5'' : b5 < wr.heap.size + 1 + 1 := by omega
 have lg' : g < wr.heap.size + 1 := by omega
 have lg'' : g < wr.heap.size + 1 + 1 := by omega
 refine ⟨below_alloc (below_alloc (below_alloc h.below _) _) _, cell_alloc (cell_alloc (cell_alloc h.f0 _) _) _, cell_alloc (cell_alloc (cell_alloc h.f1 _) _) _, cell_alloc (cell_alloc (cell_alloc h.f2 _) _) _, cell_alloc (cell_alloc (cell_alloc h.f3 _) _) _, ?_, ?_, ?_, ?_, ?_, by simp, by simp, by have := h.s5; omega, l5, lg, h.ng, h.s5, h.sg⟩
 ·rw [heap_alloc_old _ _ (by simp; omega), heap_alloc_old _ _ (by simp; omega), heap_alloc_old _ _ (by omega)]
  exact h.a5
 ·rw [heap_alloc_old _ _ (by simp; omega), heap_alloc_old _ _ (by simp; omega), heap_alloc_old _ _ (by omega)]
  exact h.row
 ·go_simp
 ·go_simp
 ·rw [heap_alloc_old _ _ (by simp)]
  have := heap_alloc_new (wr.alloc (.cells #[.int .i64 c] 3)) (.cells (bools (List.replicate n false)).toArray 4)
  simpa using this

theorem Mid.top {w : World} {s b5 g r n : Nat} {A0 A1 A2 A3 : Value} {now : List Bool} {c : Int} {next : List Bool} {wc : World} (h : Mid w s b5 g r n A0 A1 A2 A3 now c next wc) :
  Top w s b5 (r + 1) n A0 A1 A2 A3 next (wc.setCell ⟨b5, 0, none⟩ (.slice (some ⟨r + 1, 0, none⟩) n n)) := by
 have hs := h.s5
 have h5 := h.p5
 have hc : ∀ (o : Nat) (v : Value), wc.cell? ⟨s, o, none⟩ = some v → (wc.setCell ⟨b5, 0, none⟩ (.slice (some ⟨r + 1, 0, none⟩) n n)).cell? ⟨s, o, none⟩ = some v := fun o v h1 => by
  simp only [World.cell?] at h1 ⊢
  rw [Below.heap_setCell wc ⟨b5, 0, none⟩ _ s (by show s ≠ b5; omega)]; exact h1
 exact ⟨h.below.setCell (by show s ≤ b5; omega) _, hc _ _ h.f0, hc _ _ h.f1, hc _ _ h.f2, hc _ _ h.f3, blk_set h.a5 0 _, (Below.heap_setCell wc ⟨b5, 0, none⟩ _ (r + 1) (by show r + 1 ≠ b5; omega)).trans h.new, by omega, hs, by have := h.ps; omega⟩

theorem inK_step (L Fo : LL) (c : Int) (now next : List Bool) (k : Nat) (b : Bool) (h : now.getD k false = b) : inK L Fo c now next (k + 1) = if b then reachL L c (inK L Fo c now next k) (Fo.getD k []) else inK L Fo c now next k := by
 subst h; rfl

set_option maxHeartbeats 2000000 in
set_option maxRecDepth 10000 in
theorem match_calls (A0 : Option Addr) (c0 : Nat) (L : LL) (A1 : Option Addr) (c1 : Nat) (F : List Int) (A2 : Option Addr) (c2 : Nat) (La : List Int) (A3 : Option Addr) (c3 : Nat) (Fo : LL) (b : Bool) (A4 : Option Addr) (c4 : Nat) (word : List Int) (w : World)
  (h0 : Kd.C kL w A0 L.length L ∧ L.length ≤ c0) (h1 : Kd.C kI w A1 F.length F ∧ F.length ≤ c1) (h2 : Kd.C kI w A2 La.length La ∧ La.length ≤ c2) (h3 : Kd.C kL w A3 Fo.length Fo ∧ Fo.length ≤ c3) (h4 : Kd.C kI w A4 word.length word) (hlen : Fo.length ≤ 5864062014634) (hlen2 : L.length ≤ 5864062014634) :
  Calls Tryd.prog 23 #[.agg #[.slice A0 L.length c0, .slice A1 F.length c1, .slice A2 La.length c2, .slice A3 Fo.length c3, .bool b], .slice A4 word.length c4] w fun e w' => e = .returned (.bool (matchB L F La Fo b word)) ∧ Below w.heap.size w w' := by
 have hu := Tryd.underlying42
 have e75 := enters_of Tryd.func75 (by kernel_rfl) rfl
 have hbig := C_bound h4
 have H0 := Aside0.mk h0
 have H1 := Aside0.mk h1
 have H2 := Aside0.mk h2
 have H3 := Aside0.mk h3
 have H4 := Aside0.mk h4
 have HN := Aside0.mk hlen
 clear h0 h1 h2 h3 h4 hlen
 go_enter Tryd.func23, Tryd.ntmps23
 go_wp2_with fail
 have hbW := fun (o1 : Obj) => (below_alloc (Below.refl w.heap.size w) o1)
 refine (placed_calls A0 c0 L A1 c1 F A2 c2 La A3 c3 Fo b _ ⟨Kd.C_below H0.out.1 (hbW _), H0.out.2⟩ ⟨Kd.C_below H1.out.1 (hbW _), H1.out.2⟩ ⟨Kd.C_below H2.out.1 (hbW _), H2.out.2⟩ ⟨Kd.C_below H3.out.1 (hbW _), H3.out.2⟩ HN.out).mono ?_
 rintro e w1 ⟨rfl, hb⟩
 obtain ⟨hc, hf⟩ := bcell hb
 have hz : w.heap.size < w1.heap.size := by have := hb.size; simp at this; omega
 have f0 : w1.cell? ⟨w.heap.size, 0, none⟩ = some (.slice A0 L.length c0) := (hc _ 0 (by simp)).trans (by go_simp)
 have f1 : w1.cell? ⟨w.heap.size, 1, none⟩ = some (.slice A1 F.length c1) := (hc _ 1 (by simp)).trans (by go_simp)
 have f2 : w1.cell? ⟨w.heap.size, 2, none⟩ = some (.slice A2 La.length c2) := (hc _ 2 (by simp)).trans (by go_simp)
 have f3 : w1.cell? ⟨w.heap.size, 3, none⟩ = some (.slice A3 Fo.length c3) := (hc _ 3 (by simp)).trans (by go_simp)
 have f4 : w1.cell? ⟨w.heap.size, 4, none⟩ = some (.bool b) := (hc _ 4 (by simp)).trans (by go_simp)
 have HB := Aside0.mk (below_step (hbW _) hb)
 clear hb hbW hc hf
 cases hP : placedB L F La Fo with
 | false =>
  have HP := Aside0.mk hP
  clear hP
  go_wp2_with fail
  go_ret
  exact ⟨by simp [matchB, HP.out], HB.out⟩
 | true =>
  have HP := Aside0.mk hP
  clear hP
  by_cases hl : word.length = 0
  ·have hb1 : ((word.length : Int) == 0) = true := by rw [hl]; rfl
   have hb2 : (word.length == 0) = true := by rw [hl]; rfl
   have HL := Aside0.mk hl
   clear hl
   go_wp2_with fail
   go_ret
   exact ⟨by simp [matchB, HP.out, HL.out], HB.out⟩
  ·have hb1 : ((word.length : Int) == 0) = false := beq_eq_false_iff_ne.2 (by omega)
   have hb2 : (word.length == 0) = false := beq_eq_false_iff_ne.2 (by omega)
   have HL := Aside0.mk hl
   clear hl
   have hmk := make_bools L.length hlen2
   go_wp2_with fail
   go_loopg [26] word.length (fun gg v26 wr => ∃ (kk g : Nat), kk ≤ word.length ∧ word.length - kk ≤ gg ∧ v26 = .int .i64 kk ∧ Aside0 (Top w w.heap.size (w1.heap.size + 1) g L.length (.slice A0 L.length c0) (.slice A1 F.length c1) (.slice A2 La.length c2) (.slice A3 Fo.length c3) (atK L F Fo word kk) wr))
   case atStart =>
    refine ⟨0, w1.heap.size, Nat.zero_le _, by omega, rfl, ⟨?_⟩⟩
    have hb2 := below_alloc (below_alloc HB.out (.cells (bools (List.replicate L.length false)).toArray 4)) (.cells #[.slice (some ⟨w1.heap.size, 0, none⟩) L.length L.length] 58)
    refine ⟨hb2, cell_alloc (cell_alloc f0 _) _, cell_alloc (cell_alloc f1 _) _, cell_alloc (cell_alloc f2 _) _, cell_alloc (cell_alloc f3 _) _, ?_, ?_, by omega, by omega, hz⟩
    ·have := heap_alloc_new (w1.alloc (.cells (bools (List.replicate L.length false)).toArray 4)) (.cells #[.slice (some ⟨w1.heap.size, 0, none⟩) L.length L.length] 58)
     simpa using this
    ·rw [heap_alloc_old _ _ (by simp)]
     exact heap_alloc_new _ _
   case round =>
    obtain ⟨kk, g, hkk, hg, rfl, HT⟩ := hrel
    obtain ⟨wo, rfl⟩ : ∃ wo, wo = wr := ⟨_, rfl⟩
    have ff0 := HT.out.f0
    have ff1 := HT.out.f1
    have ff2 := HT.out.f2
    have ff3 := HT.out.f3
    have aa5 : wo.cell? ⟨w1.heap.size + 1, 0, none⟩ = some (.slice (some ⟨g, 0, none⟩) L.length L.length) := (blk_cell HT.out.a5 0).trans rfl
    by_cases hlt : kk < word.length
    ·have hltz : (kk : Int) < (word.length : Int) := by omega
     obtain ⟨ad, rfl, hcell⟩ := int_at (Kd.C_below H4.out HT.out.below) kk word[kk] (List.getElem?_eq_getElem hlt)
     have hy : Aside0 (word.getD kk 0 = word[kk]) := ⟨by rw [List.getD_eq_getElem?_getD, List.getElem?_eq_getElem hlt]; rfl⟩
     generalize word[kk] = c at hcell hy
     have al5 := fun o => cell_alloc aa5 o
     have al1 := fun o1 o2 o3 => cell_alloc (cell_alloc (cell_alloc ff1 o1) o2) o3
     have T := Aside0.mk (HT.out.mid rfl c)
     have PIN := Aside0.mk (placed_in HP.out)
     clear HT
     go_upto_if 36 with fail
     go_cut [35] (fun v35 wc => v35 = .int .i64 kk ∧ Aside0 (Mid w w.heap.size (w1.heap.size + 1) g wo.heap.size L.length (.slice A0 L.length c0) (.slice A1 F.length c1) (.slice A2 La.length c2) (.slice A3 Fo.length c3) (atK L F Fo word kk) c (begin L c F kk) wc))
     case first =>
      by_cases h0 : kk = 0
      ·have d1 : ((kk : Int) == 0) = true := by rw [h0]; rfl
       have d2 : (kk == 0) = true := by rw [h0]; rfl
       have E0 := Aside0.mk h0
       clear h0
       go_wp2_with fail
       have t := T.out
       refine (reach_calls (wo.heap.size + 1 + 1) (wo.heap.size + 1) w.heap.size wo.heap.size L.length A0 c0 L c (List.replicate L.length false) A1 c1 F w _ t.below H0.out.1 H1.out.1 (by have := t.ps; omega) t.a8 t.f0 t.a7 (by omega) (by have := t.ps; omega) (by omega) t.len rfl PIN.out.2.1 t.new).mono ?_
       rintro e w' ⟨rfl, g1, g2, g3, g4⟩
       have t' := Aside0.mk (t.step g1 g2 g3 g4)
       clear t g1 g2 g3 g4
       go_wp2_with fail
       go_meet
       refine ⟨rfl, ⟨?_⟩⟩
       rw [show begin L c F kk = reachL L c (List.replicate L.length false) F from by simp [begin, E0.out]]
       exact t'.out
      ·have d1 : ((kk : Int) == 0) = false := beq_eq_false_iff_ne.2 (by omega)
       have d2 : (kk == 0) = false := beq_eq_false_iff_ne.2 (by omega)
       have E0 := Aside0.mk h0
       clear h0
       go_wp2_with fail
       go_meet
       refine ⟨rfl, ⟨?_⟩⟩
       rw [show begin L c F kk = List.replicate L.length false from by simp [begin, E0.out]]
       exact T.out
     case rest =>
      obtain ⟨rfl, HM⟩ := hcut
      have m5 : wc.cell? ⟨w1.heap.size + 1, 0, none⟩ = some (.slice (some ⟨g, 0, none⟩) L.length L.length) := (blk_cell HM.out.a5 0).trans rfl
      clear al5 al1 ff0 ff1 ff2 ff3 aa5 hcell f0 f1 f2 f3 f4
      go_wp2_with fail
      go_loopg [43] L.length (fun gg v43 wr => ∃ (j : Nat), j ≤ L.length ∧ L.length - j ≤ gg ∧ v43 = .int .i64 j ∧ Aside0 (Mid w w.heap.size (w1.heap.size + 1) g wo.heap.size L.length (.slice A0 L.length c0) (.slice A1 F.length c1) (.slice A2 La.length c2) (.slice A3 Fo.length c3) (atK L F Fo word kk) c (inK L Fo c (atK L F Fo word kk) (begin L c F kk) j) wr))
      case atStart => exact ⟨0, Nat.zero_le _, by omega, rfl, HM⟩
      case round =>
       obtain ⟨j, hj, hgj, rfl, HQ⟩ := hrel
       have ff3 := HQ.out.f3
       by_cases hlj : j < L.length
       ·have hlz : (j : Int) < (L.length : Int) := by omega
        have hrow : wr.cell? ⟨g, j, none⟩ = some (.bool ((atK L F Fo word kk).getD j false)) := (blk_cell HQ.out.row j).trans (bools_at _ _ (by rw [atK_length]; exact hlj))
        have hst := Aside0.mk (inK_step L Fo c (atK L F Fo word kk) (begin L c F kk) j)
        generalize hv : (atK L F Fo word kk).getD j false = v at hrow
        have HV := Aside0.mk hv
        clear hv
        cases v with
        | true =>
         have hFo := PIN.out.1
         obtain ⟨ad3, A5, c5, rfl, hcell5', h5, h6⟩ := list_at H3.out.1 j (Fo.getD j []) (by rw [List.getD_eq_getElem?_getD, List.getElem?_eq_getElem (show j < Fo.length by omega)]; rfl)
         have hcell5 := pw_cell_below HQ.out.below hcell5'
         clear hcell5'
         have hmem : Fo.getD j [] ∈ Fo := by
          rw [List.getD_eq_getElem?_getD, List.getElem?_eq_getElem (show j < Fo.length by omega)]
          exact List.getElem_mem _
         have hqs := Aside0.mk (PIN.out.2.2.2 _ hmem)
         have hE : Aside0 (inK L Fo c (atK L F Fo word kk) (begin L c F kk) (j + 1) = reachL L c (inK L Fo c (atK L F Fo word kk) (begin L c F kk) j) (Fo.getD j [])) := ⟨by rw [hst.out true HV.out]; rfl⟩
         have hjF : j < Fo.length := by omega
         have hjz : (j : Int) < (Fo.length : Int) := by omega
         clear hmem hst
         generalize Fo.getD j [] = x at hcell5 h5 h6 hqs hE
         have H6 := Aside0.mk (And.intro h5 h6)
         clear h5 h6 hFo
         go_wp2_with fail
         have t := HQ.out
         refine (reach_calls (wo.heap.size + 1 + 1) (wo.heap.size + 1) w.heap.size wo.heap.size L.length A0 c0 L c _ A5 c5 x w _ t.below H0.out.1 H6.out.2 (by have := t.ps; omega) t.a8 t.f0 t.a7 (by omega) (by have := t.ps; omega) (by omega) t.len rfl hqs.out t.new).mono ?_
         rintro e w' ⟨rfl, g1, g2, g3, g4⟩
         have t' := Aside0.mk (t.step g1 g2 g3 g4)
         clear t g1 g2 g3 g4
         go_wp2_with fail
         go_roundg (L.length - (j + 1))
         case measure => omega
         case rel =>
          refine ⟨j + 1, by omega, by omega, by go_num, ?_⟩
          rw [hE.out]
          exact t'
        | false =>
         have hE : Aside0 (inK L Fo c (atK L F Fo word kk) (begin L c F kk) (j + 1) = inK L Fo c (atK L F Fo word kk) (begin L c F kk) j) := ⟨by rw [hst.out false HV.out]; rfl⟩
         clear hst
         go_wp2_with fail
         go_roundg (L.length - (j + 1))
         case measure => omega
         case rel =>
          refine ⟨j + 1, by omega, by omega, by go_num, ?_⟩
          rw [hE.out]
          exact HQ
       ·have hlz : ¬ (j : Int) < (L.length : Int) := by omega
        obtain rfl : L.length = j := by omega
        have q8 := HQ.out.a8
        have q5 : wr.cell? ⟨w1.heap.size + 1, 0, none⟩ = some (.slice (some ⟨g, 0, none⟩) L.length L.length) := (blk_cell HQ.out.a5 0).trans rfl
        have qf := blk_frozen HQ.out.a5 0
        go_wp2_with fail
        go_roundg (word.length - (kk + 1))
        case measure => omega
        case rel =>
         refine ⟨kk + 1, wo.heap.size + 1, by omega, by omega, by go_num, ⟨?_⟩⟩
         rw [show atK L F Fo word (kk + 1) = inK L Fo c (atK L F Fo word kk) (begin L c F kk) L.length from by simp only [atK, hy.out]]
         exact HQ.out.top
    ·have hltz : ¬ (kk : Int) < (word.length : Int) := by omega
     obtain rfl : word.length = kk := by omega
     have PIN := Aside0.mk (placed_in HP.out)
     go_wp2_with fail
     refine (containsFunc_int 78 #[.pointer (some ⟨w1.heap.size + 1, 0, none⟩)] (enters_of Tryd.func78 (by kernel_rfl) rfl) (fun q => (atK L F Fo word word.length).getD q.toNat false) A2 c2 La wo (Kd.C_below H2.out.1 HT.out.below) (fun W x hb hx => ?_)).mono ?_
     ·have := HT.out.ng
      exact is_calls (w1.heap.size + 1) g L.length (atK L F Fo word word.length) x W ((hb.cell (p := ⟨w1.heap.size + 1, 0, none⟩) (blk_lt HT.out.a5)).trans aa5) (atK_length _ _ _ _ _) (PIN.out.2.2.1 x hx) ((hb.block _ (blk_lt HT.out.row)).trans HT.out.row)
     ·rintro e w' ⟨rfl, hb'⟩
      go_wp2_with fail
      go_ret
      exact ⟨by simp [matchB, HP.out, HL.out], below_step HT.out.below hb'⟩
end Go.Proofs.YtfonajakaimnoaaDoor.C11

/- slices.Clone at numbers: a list of its own. -/
namespace Go.Proofs.YtfonajakaimnoaaDoor.Fn
open Go.RowKit Go.Proofs.YtfonajakaimnoaaDoorW.PrintWords Go.Proofs.YtfonajakaimnoaaDoorW.PrintLast Go.Proofs.YtfonajakaimnoaaDoorW.PrintMore Go.Proofs.YtfonajakaimnoaaDoor.Lib Lent
attribute [local go_sem] max2_int min2_int max_two min_two max_three min_three max_four min_four
theorem infoInt : (Tryd.prog.info? 3).map (fun i => (i.zero, i.size, i.bytes)) = some (some (.int .i64 0), 1, 8) := by kernel_rfl

set_option maxHeartbeats 400000 in
theorem clone_calls (A : Option Addr) (c : Nat) (l : List Int) (w : World) (hr : Kd.C (Kd.int .i64) w A l.length l) (hl : l.length ≤ 17592186043904) :
  Calls Tryd.prog 82 #[.slice A l.length c] w fun e w' => ∃ v, e = .returned v ∧ Kd.R (Kd.int .i64) 3 w' w.heap.size (fun _ => True) v l ∧ Below w.heap.size w w' := by
 have hu := Tryd.underlying25
 have HR := Aside0.mk hr
 have HL := Aside0.mk hl
 clear hr hl
 cases A with
 | none =>
  have hn : Aside0 (l = []) := ⟨by
   obtain ⟨h1, h2, h3⟩ := HR.out
   cases l with
   | nil => rfl
   | cons x r => obtain ⟨ad, e, _⟩ := h3 (by simp); cases e⟩
  have he := fun (W : World) => _root_.Go.Lib.run_eql_slice_nil (P := Tryd.prog) W 25 3 none l.length c 0 0 Tryd.underlying25
  simp only [Option.isNone_none] at he
  go_enter Tryd.func82, Tryd.ntmps82
  go_wp2
  go_ret
  refine ⟨_, rfl, ?_, by repeat (first | exact Below.refl _ _ | apply pw_below_drewN | apply below_drew1 | apply below_alloc)⟩
  rw [hn.out]
  exact Kd.R_nil _ _ _ _ _
 | some a =>
  have he := fun (W : World) => _root_.Go.Lib.run_eql_slice_nil (P := Tryd.prog) W 25 3 (some a) l.length c 0 0 Tryd.underlying25
  simp only [Option.isNone_some] at he
  go_enter Tryd.func82, Tryd.ntmps82
  have HB := Aside0.mk (below_alloc (Below.refl w.heap.size w) (.cells #[] 3))
  have HO := Aside0.mk (show Kd.R (Kd.int .i64) 3 (w.alloc (.cells #[] 3)) w.heap.size (fun _ => True) (.slice (some ⟨w.heap.size, 0, none⟩) 0 0) ([] : List Int) from
   ⟨fun _ _ => trivial, [], ⟨rfl, .inr ⟨w.heap.size, 0, #[], rfl, Nat.le_refl _, heap_alloc_new _ _, Nat.le_refl _, by simp [maxLen], rfl, rfl⟩⟩, Reps.none _ _⟩)
  go_wp2_with ((with_reducible refine gate_builtin (b := .append) (xs := #[.tmp 5, .tmp 6]) rfl ?_); at_builtin; refine Kd.R_append_rows (Kd.int .i64) (w0 := w) w.heap.size rfl (.tmp 5) (.tmp 6) 25 3 (.int .i64 0) 8 rfl Tryd.underlying25 infoInt rfl (by decide) (by omega) (.slice (some ⟨w.heap.size, 0, none⟩) 0 0) ([] : List Int) l _ _ _ (fun _ => True) (fun _ => False) rfl rfl ?aO ?aR (fun _ _ h => h) (fun _ h => h.elim) ?aF ?aB ?aS ?aL ?_; (case aR => exact Kd.C_below HR.out HB.out); (case aB => exact HB.out); (case aF => exact (fun _ _ => trivial)); (case aO => exact HO.out); (case aS => exact HB.out.size); (case aL => have := HL.out; simp; omega); intro v w1 ho hb hg hat; have HO1 := Aside0.mk ho; have HB1 := Aside0.mk hb; clear ho hb hg hat)
  go_ret
  exact ⟨_, rfl, HO1.out, HB1.out⟩
end Go.Proofs.YtfonajakaimnoaaDoor.Fn

namespace Go.Proofs.YtfonajakaimnoaaDoor.Lib
open Go.RowKit Go.Proofs.YtfonajakaimnoaaDoorW.PrintWords Go.Proofs.YtfonajakaimnoaaDoorW.PrintLast Go.Proofs.YtfonajakaimnoaaDoorW.PrintMore
attribute [local go_sem] max2_int min2_int max_two min_two max_three min_three max_four min_four   -- for this text's walks alone
set_option linter.unusedVariables false
set_option linter.unusedSimpArgs false

/-! ### places_rises: function 73 -/
def places_rises.l0 : Nat → Int → Int → List Int → Int → Int → Option (Bool)
 | 0, _, _, _, _, _ => none
 | k + 1, x1, x5, x8, x9, x10 => if x10 < x9 then (if 0 ≤ x10 then (if x10 < (x8.length : Int) then (if (rd x8 x10) ≤ x5 then (some false) else (if (rd x8 x10) ≥ x1 then (some false) else (places_rises.l0 k x1 (rd x8 x10) x8 x9 (wrap64 (x10 + 1))))) else (none)) else (none)) else (some true)
def places_rises.f (k : Nat) (l0 : List Int) (a1 : Int) : Option (Bool) := places_rises.l0 k a1 (-1) l0 (l0.length : Int) 0
theorem places_rises.mono_l : ∀ k, (∀ y0 y1 y2 y3 y4, LeO (places_rises.l0 k y0 y1 y2 y3 y4) (places_rises.l0 (k + 1) y0 y1 y2 y3 y4))
 | 0 => fun _ _ _ _ _ r h => by simp [places_rises.l0] at h
 | k + 1 => by
  have ih0 := places_rises.mono_l k
  ·intro y0 y1 y2 y3 y4
   unfold places_rises.l0
   repeat' first
   | (with_reducible exact ih0 _ _ _ _ _)
   | (with_reducible exact LeO.refl _)
   | (with_reducible exact LeO.none _)
   | (with_reducible refine LeO.ite ?_ ?_)
   | (with_reducible refine LeO.bind ?_ (fun _ => ?_))
   | exact ih0 _ _ _ _ _
   | exact LeO.none _
   | refine LeO.ite ?_ ?_
   | refine LeO.bind ?_ (fun _ => ?_)
theorem places_rises.mono : ∀ a0 a1 k, LeO (places_rises.f k a0 a1) (places_rises.f (k + 1) a0 a1) := by
 intro a0 a1 k
 have ih0 := places_rises.mono_l k
 unfold places_rises.f
 repeat' first
   | (with_reducible exact ih0 _ _ _ _ _)
   | (with_reducible exact LeO.refl _)
   | (with_reducible exact LeO.none _)
   | (with_reducible refine LeO.ite ?_ ?_)
   | (with_reducible refine LeO.bind ?_ (fun _ => ?_))
   | exact ih0 _ _ _ _ _
   | exact LeO.none _
   | refine LeO.ite ?_ ?_
   | refine LeO.bind ?_ (fun _ => ?_)
set_option maxHeartbeats 8000000 in
set_option maxRecDepth 100000 in
theorem places_rises.calls (k : Nat) (A0 : Option Addr) (c0 : Nat) (l0 : List Int) (a1 : Int) (r : Bool) (w : World) (hr0 : Kd.C (Kd.int .i64) w A0 l0.length l0) (hc0 : l0.length ≤ c0) (h : places_rises.f k l0 a1 = some r) :
  Calls Tryd.prog 73 #[.slice A0 l0.length c0, .int .i64 a1] w fun e w' => e = .returned (.bool r) ∧ Drawn0 w w' := by
 have HR0 := Aside0.mk hr0
 have HC0 := Aside0.mk hc0
 clear hr0 hc0
 have H : (places_rises.l0 k a1 (-1) l0 (l0.length : Int) 0) = some r := h
 clear h
 have H' := Aside0.mk H
 clear H
 go_enter Tryd.func73, Tryd.ntmps73
 go_wp2
 go_loopg [5, 10] k (fun kq v5 v10 w' => ∃ (x5_1 : Int) (x10_1 : Int), v5 = .int .i64 x5_1 ∧ v10 = .int .i64 x10_1 ∧ Aside0 (places_rises.l0 kq a1 x5_1 l0 (l0.length : Int) x10_1 = some r) ∧ Aside0 (kq ≤ k) ∧ Drawn0 w w')
 case atStart => exact ⟨((-1)), (0), (by first | rfl | (simp; done) | (simp [*]; done)), (by first | rfl | (simp; done) | (simp [*]; done)), H', ⟨Nat.le_refl _⟩, by repeat (first | exact Drawn0.refl _ | apply Drawn0.step)⟩
 case round =>
  clear H'
  try clear p2
  obtain ⟨x5_1, x10_1, rfl, rfl, HA, HK1, ⟨m1, rfl⟩⟩ := hrel
  cases gk with
  | zero => exact absurd HA.out (by simp [places_rises.l0])
  | succ k1 =>
   have H := HA.out
   clear HA
   simp only [places_rises.l0] at H
   by_cases c3 : x10_1 < (l0.length : Int)
   ·rw [if_pos c3] at H
    have c3b0 : decide (x10_1 < (l0.length : Int)) = true := decide_eq_true c3
    clear c3
    by_cases c4 : 0 ≤ x10_1
    ·rw [if_pos c4] at H
     have c4b0 : decide (0 ≤ x10_1) = true := decide_eq_true c4
     clear c4
     by_cases c5 : x10_1 < (l0.length : Int)
     ·rw [if_pos c5] at H
      have c5b0 : decide (x10_1 < (l0.length : Int)) = true := decide_eq_true c5
      clear c5
      by_cases c6 : (rd l0 x10_1) ≤ x5_1
      ·rw [if_pos c6] at H
       have c6b0 : decide ((rd l0 x10_1) ≤ x5_1) = true := decide_eq_true c6
       clear c6
       obtain rfl := Option.some.inj H
       have p270 : 0 ≤ (x10_1 : Int) := of_decide_eq_true (by first | (with_reducible assumption) | assumption)
       have q270 : x10_1 < (l0.length : Int) := of_decide_eq_true (by first | (with_reducible assumption) | assumption)
       obtain ⟨ad270, e270, hx270_0⟩ := Kd.at_int HR0.out x10_1 p270 q270
       cases e270
       replace p270 := eq_true p270
       replace q270 := eq_true q270
       go_wp2
       go_ret
       exact ⟨by first | rfl | (simp; done) | (simp [*]; done), by repeat (first | exact Drawn0.refl _ | apply Drawn0.step)⟩
      ·rw [if_neg c6] at H
       have c6b0 : decide ((rd l0 x10_1) ≤ x5_1) = false := decide_eq_false c6
       clear c6
       by_cases c7 : (rd l0 x10_1) ≥ a1
       ·rw [if_pos c7] at H
        have c7b0 : decide (a1 ≤ (rd l0 x10_1)) = true := decide_eq_true c7
        clear c7
        obtain rfl := Option.some.inj H
        have p270 : 0 ≤ (x10_1 : Int) := of_decide_eq_true (by first | (with_reducible assumption) | assumption)
        have q270 : x10_1 < (l0.length : Int) := of_decide_eq_true (by first | (with_reducible assumption) | assumption)
        obtain ⟨ad270, e270, hx270_0⟩ := Kd.at_int HR0.out x10_1 p270 q270
        cases e270
        replace p270 := eq_true p270
        replace q270 := eq_true q270
        go_wp2
        go_ret
        exact ⟨by first | rfl | (simp; done) | (simp [*]; done), by repeat (first | exact Drawn0.refl _ | apply Drawn0.step)⟩
       ·rw [if_neg c7] at H
        have c7b0 : decide (a1 ≤ (rd l0 x10_1)) = false := decide_eq_false c7
        clear c7
        have H' := Aside0.mk H
        clear H
        have p270 : 0 ≤ (x10_1 : Int) := of_decide_eq_true (by first | (with_reducible assumption) | assumption)
        have q270 : x10_1 < (l0.length : Int) := of_decide_eq_true (by first | (with_reducible assumption) | assumption)
        obtain ⟨ad270, e270, hx270_0⟩ := Kd.at_int HR0.out x10_1 p270 q270
        cases e270
        replace p270 := eq_true p270
        replace q270 := eq_true q270
        go_wp2
        go_roundg k1
        case measure => have := HK1.out; omega
        case rel => exact ⟨(rd l0 x10_1), (wrap64 (x10_1 + 1)), (by first | rfl | (simp; done) | (simp [*]; done)), (by first | rfl | (simp; done) | (simp [*]; done)), H', ⟨by have := HK1.out; omega⟩, by repeat (first | exact Drawn0.refl _ | apply Drawn0.step)⟩
     ·rw [if_neg c5] at H
      exact absurd H (by simp)
    ·rw [if_neg c4] at H
     exact absurd H (by simp)
   ·rw [if_neg c3] at H
    have c3b0 : decide (x10_1 < (l0.length : Int)) = false := decide_eq_false c3
    clear c3
    obtain rfl := Option.some.inj H
    go_wp2
    go_ret
    exact ⟨by first | rfl | (simp; done) | (simp [*]; done), by repeat (first | exact Drawn0.refl _ | apply Drawn0.step)⟩

end Go.Proofs.YtfonajakaimnoaaDoor.Lib

namespace Go.Proofs.YtfonajakaimnoaaDoor.Lib
open Go.RowKit Go.Proofs.YtfonajakaimnoaaDoorW.PrintWords Go.Proofs.YtfonajakaimnoaaDoorW.PrintLast Go.Proofs.YtfonajakaimnoaaDoorW.PrintMore
attribute [local go_sem] max2_int min2_int max_two min_two max_three min_three max_four min_four   -- for this text's walks alone
set_option linter.unusedVariables false
set_option linter.unusedSimpArgs false

/-! ### places_count: function 72 -/
def places_count.l0 : Nat → Int → List (List Int) → Int → Int → Option (Int)
 | 0, _, _, _, _ => none
 | k + 1, x3, x6, x7, x8 => if x8 < x7 then (if 0 ≤ x8 then (if x8 < (x6.length : Int) then (places_count.l0 k (wrap64 (x3 + ((rd_L1 x6 x8).length : Int))) x6 x7 (wrap64 (x8 + 1))) else (none)) else (none)) else (some x3)
def places_count.f (k : Nat) (l0 : List (List Int)) : Option (Int) := places_count.l0 k 0 l0 (l0.length : Int) 0
theorem places_count.mono_l : ∀ k, (∀ y0 y1 y2 y3, LeO (places_count.l0 k y0 y1 y2 y3) (places_count.l0 (k + 1) y0 y1 y2 y3))
 | 0 => fun _ _ _ _ r h => by simp [places_count.l0] at h
 | k + 1 => by
  have ih0 := places_count.mono_l k
  ·intro y0 y1 y2 y3
   unfold places_count.l0
   repeat' first
   | (with_reducible exact ih0 _ _ _ _)
   | (with_reducible exact LeO.refl _)
   | (with_reducible exact LeO.none _)
   | (with_reducible refine LeO.ite ?_ ?_)
   | (with_reducible refine LeO.bind ?_ (fun _ => ?_))
   | exact ih0 _ _ _ _
   | exact LeO.none _
   | refine LeO.ite ?_ ?_
   | refine LeO.bind ?_ (fun _ => ?_)
theorem places_count.mono : ∀ a0 k, LeO (places_count.f k a0) (places_count.f (k + 1) a0) := by
 intro a0 k
 have ih0 := places_count.mono_l k
 unfold places_count.f
 repeat' first
   | (with_reducible exact ih0 _ _ _ _)
   | (with_reducible exact LeO.refl _)
   | (with_reducible exact LeO.none _)
   | (with_reducible refine LeO.ite ?_ ?_)
   | (with_reducible refine LeO.bind ?_ (fun _ => ?_))
   | exact ih0 _ _ _ _
   | exact LeO.none _
   | refine LeO.ite ?_ ?_
   | refine LeO.bind ?_ (fun _ => ?_)
set_option maxHeartbeats 8000000 in
set_option maxRecDepth 100000 in
theorem places_count.calls (k : Nat) (A0 : Option Addr) (c0 : Nat) (l0 : List (List Int)) (r : Int) (w : World) (hr0 : Kd.C (Kd.slice 3 (Kd.int .i64)) w A0 l0.length l0) (hc0 : l0.length ≤ c0) (h : places_count.f k l0 = some r) :
  Calls Tryd.prog 72 #[.slice A0 l0.length c0] w fun e w' => e = .returned (.int .i64 r) ∧ Drawn0 w w' := by
 have HR0 := Aside0.mk hr0
 have HC0 := Aside0.mk hc0
 clear hr0 hc0
 have H : (places_count.l0 k 0 l0 (l0.length : Int) 0) = some r := h
 clear h
 have H' := Aside0.mk H
 clear H
 go_enter Tryd.func72, Tryd.ntmps72
 go_wp2
 go_loopg [3, 8] k (fun kq v3 v8 w' => ∃ (x3_1 : Int) (x8_1 : Int), v3 = .int .i64 x3_1 ∧ v8 = .int .i64 x8_1 ∧ Aside0 (places_count.l0 kq x3_1 l0 (l0.length : Int) x8_1 = some r) ∧ Aside0 (kq ≤ k) ∧ Drawn0 w w')
 case atStart => exact ⟨(0), (0), (by first | rfl | (simp; done) | (simp [*]; done)), (by first | rfl | (simp; done) | (simp [*]; done)), H', ⟨Nat.le_refl _⟩, by repeat (first | exact Drawn0.refl _ | apply Drawn0.step)⟩
 case round =>
  clear H'
  obtain ⟨x3_1, x8_1, rfl, rfl, HA, HK1, ⟨m1, rfl⟩⟩ := hrel
  cases gk with
  | zero => exact absurd HA.out (by simp [places_count.l0])
  | succ k1 =>
   have H := HA.out
   clear HA
   simp only [places_count.l0] at H
   by_cases c2 : x8_1 < (l0.length : Int)
   ·rw [if_pos c2] at H
    have c2b0 : decide (x8_1 < (l0.length : Int)) = true := decide_eq_true c2
    clear c2
    by_cases c3 : 0 ≤ x8_1
    ·rw [if_pos c3] at H
     have c3b0 : decide (0 ≤ x8_1) = true := decide_eq_true c3
     clear c3
     by_cases c4 : x8_1 < (l0.length : Int)
     ·rw [if_pos c4] at H
      have c4b0 : decide (x8_1 < (l0.length : Int)) = true := decide_eq_true c4
      clear c4
      have H' := Aside0.mk H
      clear H
      have p269 : 0 ≤ (x8_1 : Int) := of_decide_eq_true (by first | (with_reducible assumption) | assumption)
      have q269 : x8_1 < (l0.length : Int) := of_decide_eq_true (by first | (with_reducible assumption) | assumption)
      obtain ⟨ad269, A269_0, c269_0, e269, hx269_0, hl269_0, hi269_0⟩ := at_L1 HR0.out x8_1 p269 q269
      cases e269
      have HR269_0 := Aside0.mk hi269_0
      have HC269_0 := Aside0.mk hl269_0
      clear hi269_0 hl269_0
      replace p269 := eq_true p269
      replace q269 := eq_true q269
      go_wp2
      go_roundg k1
      case measure => have := HK1.out; omega
      case rel => exact ⟨(wrap64 (x3_1 + ((rd_L1 l0 x8_1).length : Int))), (wrap64 (x8_1 + 1)), (by first | rfl | (simp; done) | (simp [*]; done)), (by first | rfl | (simp; done) | (simp [*]; done)), H', ⟨by have := HK1.out; omega⟩, by repeat (first | exact Drawn0.refl _ | apply Drawn0.step)⟩
     ·rw [if_neg c4] at H
      exact absurd H (by simp)
    ·rw [if_neg c3] at H
     exact absurd H (by simp)
   ·rw [if_neg c2] at H
    have c2b0 : decide (x8_1 < (l0.length : Int)) = false := decide_eq_false c2
    clear c2
    obtain rfl := Option.some.inj H
    go_wp2
    go_ret
    exact ⟨by first | rfl | (simp; done) | (simp [*]; done), by repeat (first | exact Drawn0.refl _ | apply Drawn0.step)⟩

end Go.Proofs.YtfonajakaimnoaaDoor.Lib

/- places.Check: which error it answers. -/
namespace Go.Proofs.YtfonajakaimnoaaDoor.C11
open Go.RowKit Go.Proofs.YtfonajakaimnoaaDoorW.PrintWords Go.Proofs.YtfonajakaimnoaaDoorW.PrintLast Go.Proofs.YtfonajakaimnoaaDoorW.PrintMore Go.Proofs.YtfonajakaimnoaaDoor.Lib Lent Go.Proofs.YtfonajakaimnoaaDoor.Fn Go.Shelf
attribute [local go_sem] max2_int min2_int max_two min_two max_three min_three max_four min_four

/-- rises from above a number to below another one -/
def risesB (n : Int) (last : Int) : List Int → Bool
 | [] => true
 | x :: r => !decide (x ≤ last) && (!decide (x ≥ n) && risesB n x r)
def total (L : LL) : Nat := (L.map List.length).sum
/-- the same as the program counts it: the sum wraps -/
def wt (L : LL) : Int := wrap64 (total L)
def manyB (L Fo : LL) : Bool := decide (L.length > 4000) || (decide (wt L > 4194304) || decide (wt Fo > 1048576))
def okB (L : LL) (F La : List Int) (Fo : LL) (s : Int) : Bool := decide (s ≥ 1) && (decide (s ≤ 16384) && (decide (Fo.length = L.length) && (risesB L.length (-1) F && (risesB L.length (-1) La && (L.all (risesB s (-1)) && Fo.all (risesB L.length (-1)))))))
/-- what is asked ahead of the lists of lists -/
def preB (L : LL) (F La : List Int) (Fo : LL) (s : Int) : Bool := decide (s ≥ 1) && (decide (s ≤ 16384) && (decide (Fo.length = L.length) && (risesB L.length (-1) F && risesB L.length (-1) La)))
/-- the number of the refusal: 0 none, 1 ErrArg, 3 ErrMany -/
def checkC (L : LL) (F La : List Int) (Fo : LL) (s : Int) : Nat := if manyB L Fo then 3 else if okB L F La Fo s then 0 else 1

theorem wrap_succ {i : Int} {n : Nat} (h0 : 0 ≤ i) (h : i < (n : Int)) (hn : n ≤ 9223372036854775807) : wrap64 (i + 1) = i + 1 := by
 unfold wrap64
 omega
theorem drop_at {α : Type} {xs : List α} {i : Nat} (h : i < xs.length) (d : α) : xs.drop i = xs.getD i d :: xs.drop (i + 1) := by
 rw [List.drop_eq_getElem_cons h, List.getD_eq_getElem?_getD, List.getElem?_eq_getElem h]
 rfl
theorem all_snoc {α : Type} (xs : List α) (f : α → Bool) (k : Nat) (x : α) (h : xs[k]? = some x) : (xs.take (k + 1)).all f = ((xs.take k).all f && f x) := by
 rw [List.take_add_one, h, List.all_append]
 simp
theorem rises_loop (n : Int) (xs : List Int) (hn : xs.length ≤ 9223372036854775807) (d : Nat) : ∀ (k : Nat) (i last : Int), 0 ≤ i → i ≤ xs.length → (xs.length : Int) - i = d → d < k →
  places_rises.l0 k n last xs (xs.length : Int) i = some (risesB n last (xs.drop i.toNat)) := by
 induction d with
 | zero =>
  intro k i last h0 h1 hd hk
  obtain ⟨k, rfl⟩ : ∃ m, k = m + 1 := ⟨k - 1, by omega⟩
  simp only [places_rises.l0]
  rw [if_neg (by omega), List.drop_eq_nil_of_le (by omega)]
  rfl
 | succ d ih =>
  intro k i last h0 h1 hd hk
  obtain ⟨k, rfl⟩ : ∃ m, k = m + 1 := ⟨k - 1, by omega⟩
  have hlt : i < (xs.length : Int) := by omega
  have hnat : i.toNat < xs.length := by omega
  simp only [places_rises.l0]
  rw [if_pos hlt, if_pos h0, if_pos hlt, wrap_succ h0 hlt hn, ih k (i + 1) _ (by omega) (by omega) (by omega) (by omega), drop_at hnat 0, show (i + 1).toNat = i.toNat + 1 by omega]
  have hr : rd xs i = xs.getD i.toNat 0 := rfl
  rw [hr]
  simp only [risesB]
  generalize (xs.getD i.toNat 0 : Int) = x
  by_cases h1 : x ≤ last <;> by_cases h2 : x ≥ n <;> simp [h1, h2]
theorem rises_eq (n : Int) (xs : List Int) (hn : xs.length ≤ 9223372036854775807) {k : Nat} (hk : xs.length < k) : places_rises.f k xs n = some (risesB n (-1) xs) := by
 unfold places_rises.f
 rw [rises_loop n xs hn xs.length k 0 (-1) (by omega) (by omega) (by omega) hk]
 rfl
theorem wrap_wrap (a b : Int) : wrap64 (wrap64 a + b) = wrap64 (a + b) := by
 unfold wrap64
 omega
theorem wrap_add (a b : Int) : wrap64 (a + wrap64 b) = wrap64 (a + b) := by
 unfold wrap64
 omega
theorem count_loop (L : LL) (hn : L.length ≤ 9223372036854775807) (d : Nat) : ∀ (k : Nat) (i s : Int), 0 ≤ i → i ≤ L.length → (L.length : Int) - i = d → d < k → wrap64 s = s →
  places_count.l0 k s L (L.length : Int) i = some (wrap64 (s + (total (L.drop i.toNat) : Int))) := by
 induction d with
 | zero =>
  intro k i s h0 h1 hd hk h2
  obtain ⟨k, rfl⟩ : ∃ m, k = m + 1 := ⟨k - 1, by omega⟩
  simp only [places_count.l0]
  rw [if_neg (by omega), List.drop_eq_nil_of_le (by omega), show ((total [] : Nat) : Int) = 0 from rfl, Int.add_zero, h2]
 | succ d ih =>
  intro k i s h0 h1 hd hk h2
  obtain ⟨k, rfl⟩ : ∃ m, k = m + 1 := ⟨k - 1, by omega⟩
  have hlt : i < (L.length : Int) := by omega
  have hnat : i.toNat < L.length := by omega
  have hs : (i + 1).toNat = i.toNat + 1 := by omega
  rw [drop_at hnat []]
  simp only [total, List.map_cons, List.sum_cons]
  simp only [places_count.l0]
  rw [if_pos hlt, if_pos h0, if_pos hlt, wrap_succ h0 hlt (by omega)]
  have hr : rd_L1 L i = L.getD i.toNat [] := rfl
  rw [hr, ih k (i + 1) _ (by omega) (by omega) (by omega) (by omega) (by unfold wrap64; omega), hs, wrap_wrap]
  simp only [total]
  congr 2
  omega
theorem count_eq (L : LL) (hn : L.length ≤ 9223372036854775807) {k : Nat} (hk : L.length < k) : places_count.f k L = some (wt L) := by
 unfold places_count.f
 rw [count_loop L hn L.length k 0 0 (by omega) (by omega) (by omega) hk (by unfold wrap64; omega)]
 simp [wt]

/-- the error of a number, out of these two -/
def errMA (eM eA : Value) (c : Nat) : Value := if c = 3 then eM else if c = 1 then eA else .nilIface

set_option maxHeartbeats 2000000 in
set_option maxRecDepth 100000 in
theorem check_calls (A0 : Option Addr) (c0 : Nat) (L : LL) (A1 : Option Addr) (c1 : Nat) (F : List Int) (A2 : Option Addr) (c2 : Nat) (La : List Int) (A3 : Option Addr) (c3 : Nat) (Fo : LL) (b : Bool) (s : Int) (eM eA : Value) (w : World)
  (h0 : Kd.C kL w A0 L.length L ∧ L.length ≤ c0) (h1 : Kd.C kI w A1 F.length F ∧ F.length ≤ c1) (h2 : Kd.C kI w A2 La.length La ∧ La.length ≤ c2) (h3 : Kd.C kL w A3 Fo.length Fo ∧ Fo.length ≤ c3)
  (hM : w.cell? ⟨2, 0, none⟩ = some eM) (hA : w.cell? ⟨0, 0, none⟩ = some eA) :
  Calls Tryd.prog 22 #[.agg #[.slice A0 L.length c0, .slice A1 F.length c1, .slice A2 La.length c2, .slice A3 Fo.length c3, .bool b], .int .i64 s] w fun e w' => e = .returned (errMA eM eA (checkC L F La Fo s)) ∧ Below w.heap.size w w' := by
 have hu := Tryd.underlying42
 have H0 := Aside0.mk h0
 have H1 := Aside0.mk h1
 have H2 := Aside0.mk h2
 have H3 := Aside0.mk h3
 have HL := Aside0.mk (C_bound h0.1)
 have HF := Aside0.mk (C_bound h3.1)
 clear h0 h1 h2 h3
 have hM' := cell_alloc hM
 have hA' := cell_alloc hA
 clear hM hA
 have K0 := Aside0.mk (fun (W : World) (hb : Below w.heap.size w W) => (places_count.calls (L.length + Fo.length + 1) A0 c0 L (wt L) W (Kd.C_below H0.out.1 hb) H0.out.2 (count_eq L HL.out (by omega))))
 have K3 := Aside0.mk (fun (W : World) (hb : Below w.heap.size w W) => (places_count.calls (L.length + Fo.length + 1) A3 c3 Fo (wt Fo) W (Kd.C_below H3.out.1 hb) H3.out.2 (count_eq Fo HF.out (by omega))))
 have R1 := Aside0.mk (fun (W : World) (hb : Below w.heap.size w W) => places_rises.calls (F.length + 1) A1 c1 F L.length (risesB L.length (-1) F) W (Kd.C_below H1.out.1 hb) H1.out.2 (rises_eq L.length F (C_bound H1.out.1) (by omega)))
 have R2 := Aside0.mk (fun (W : World) (hb : Below w.heap.size w W) => places_rises.calls (La.length + 1) A2 c2 La L.length (risesB L.length (-1) La) W (Kd.C_below H2.out.1 hb) H2.out.2 (rises_eq L.length La (C_bound H2.out.1) (by omega)))
 by_cases hm : L.length > 4000
 ·have hb1 : decide ((4000 : Int) < (L.length : Int)) = true := by simp; omega
  have hb2 : decide (4000 < L.length) = true := by simpa using hm
  have hr : Aside0 (checkC L F La Fo s = 3) := ⟨by simp [checkC, manyB, hm]⟩
  clear hm
  go_enter Tryd.func22, Tryd.ntmps22
  go_wp2
  go_ret
  exact ⟨by rw [hr.out]; rfl, by repeat (first | exact Below.refl _ _ | apply pw_below_drewN | apply below_drew1 | apply below_alloc)⟩
 ·have hb1 : decide ((4000 : Int) < (L.length : Int)) = false := by simp; omega
  have hb2 : decide (4000 < L.length) = false := by simpa using hm
  have HM1 := Aside0.mk hm
  clear hm
  have hbl := fun (o : Obj) => below_alloc (Below.refl w.heap.size w) o
  go_enter Tryd.func22, Tryd.ntmps22
  go_wp2_with fail
  refine (K0.out _ (hbl _)).mono ?_
  rintro e w1 ⟨rfl, ⟨⟨n1, rfl⟩⟩⟩
  by_cases hm2 : wt L > 4194304
  ·have hb3 : decide ((4194304 : Int) < wt L) = true := decide_eq_true hm2
   have hr : Aside0 (checkC L F La Fo s = 3) := ⟨by simp [checkC, manyB, hm2]⟩
   clear hm2
   go_wp2
   go_ret
   exact ⟨by rw [hr.out]; rfl, by repeat (first | exact Below.refl _ _ | apply pw_below_drewN | apply below_drew1 | apply below_alloc)⟩
  ·have hb3 : decide ((4194304 : Int) < wt L) = false := decide_eq_false hm2
   have HM2 := Aside0.mk hm2
   clear hm2
   go_wp2_with fail
   refine (K3.out _ (pw_below_drewN (hbl _) _)).mono ?_
   rintro e w1 ⟨rfl, ⟨⟨n2, rfl⟩⟩⟩
   by_cases hm3 : wt Fo > 1048576
   ·have hb4 : decide ((1048576 : Int) < wt Fo) = true := decide_eq_true hm3
    have hr : Aside0 (checkC L F La Fo s = 3) := ⟨by simp [checkC, manyB, hm3]⟩
    clear hm3
    go_wp2
    go_ret
    exact ⟨by rw [hr.out]; rfl, by repeat (first | exact Below.refl _ _ | apply pw_below_drewN | apply below_drew1 | apply below_alloc)⟩
   ·have hb4 : decide ((1048576 : Int) < wt Fo) = false := decide_eq_false hm3
    have hr : Aside0 (checkC L F La Fo s = if okB L F La Fo s then 0 else 1) := ⟨by rw [checkC, show manyB L Fo = false from by rw [manyB, decide_eq_false (show ¬ L.length > 4000 by have := HM1.out; omega), decide_eq_false (show ¬ wt L > 4194304 by have := HM2.out; omega), decide_eq_false (show ¬ wt Fo > 1048576 by omega)]; rfl]; rfl⟩
    clear hm3
    go_upto_region 3 with fail
    go_cut [5] (fun v5 wc => v5 = .bool (preB L F La Fo s) ∧ Aside0 (∃ n, wc = (w.alloc (.cells #[.slice A0 L.length c0, .slice A1 F.length c1, .slice A2 La.length c2, .slice A3 Fo.length c3, .bool b] 42)).drewN n))
    case first =>
     by_cases q1 : s ≥ 1
     ·have b1 : decide ((1 : Int) ≤ s) = true := by simpa using q1
      by_cases q2 : s ≤ 16384
      ·have b2 : decide (s ≤ (16384 : Int)) = true := by simpa using q2
       by_cases q3 : Fo.length = L.length
       ·have b3 : ((Fo.length : Int) == (L.length : Int)) = true := by rw [q3]; simp
        have b4 : (Fo.length == L.length) = true := by rw [q3]; simp
        have Q := Aside0.mk (And.intro q1 (And.intro q2 q3))
        clear q1 q2 q3
        go_wp2_with fail
        refine (R1.out _ (pw_below_drewN (hbl _) _)).mono ?_
        rintro e w1 ⟨rfl, ⟨⟨n3, rfl⟩⟩⟩
        cases hr1 : risesB L.length (-1) F with
        | true =>
         have QR1 := Aside0.mk hr1
         clear hr1
         go_wp2_with fail
         refine (R2.out _ (pw_below_drewN (hbl _) _)).mono ?_
         rintro e w1 ⟨rfl, ⟨⟨n4, rfl⟩⟩⟩
         have hp : Aside0 (preB L F La Fo s = risesB L.length (-1) La) := ⟨by simp [preB, Q.out.1, Q.out.2.1, Q.out.2.2, QR1.out]⟩
         go_wp2_with fail
         go_meet
         exact ⟨by rw [hp.out], ⟨_, rfl⟩⟩
        | false =>
         have hp : Aside0 (preB L F La Fo s = false) := ⟨by simp [preB, hr1]⟩
         clear hr1
         go_wp2_with fail
         go_meet
         exact ⟨by rw [hp.out], ⟨_, rfl⟩⟩
       ·have b3 : ((Fo.length : Int) == (L.length : Int)) = false := by simp; omega
        have b4 : (Fo.length == L.length) = false := by simpa using q3
        have hp : Aside0 (preB L F La Fo s = false) := ⟨by simp [preB, q3]⟩
        clear q3
        go_wp2_with fail
        go_meet
        exact ⟨by rw [hp.out], ⟨_, rfl⟩⟩
      ·have b2 : decide (s ≤ (16384 : Int)) = false := by simpa using q2
       have hp : Aside0 (preB L F La Fo s = false) := ⟨by simp [preB, q2]⟩
       clear q2
       go_wp2_with fail
       go_meet
       exact ⟨by rw [hp.out], ⟨_, rfl⟩⟩
     ·have b1 : decide ((1 : Int) ≤ s) = false := by simpa using q1
      have hp : Aside0 (preB L F La Fo s = false) := ⟨by simp [preB, q1]⟩
      clear q1
      go_wp2_with fail
      go_meet
      exact ⟨by rw [hp.out], ⟨_, rfl⟩⟩
    case rest =>
     obtain ⟨rfl, ⟨n3, rfl⟩⟩ := hcut
     have HP : Aside0 (checkC L F La Fo s = if preB L F La Fo s && ((L.take L.length).all (risesB s (-1)) && (Fo.take Fo.length).all (risesB L.length (-1))) then 0 else 1) := ⟨by
      rw [hr.out, List.take_length, List.take_length]
      simp [okB, preB, Bool.and_assoc]⟩
     clear hr
     generalize preB L F La Fo s = pre at HP
     go_wp2_with fail
     go_loopg [5, 61] L.length (fun gg v5 v61 wr => ∃ (kk : Nat) (q : Bool), kk ≤ L.length ∧ L.length - kk ≤ gg ∧ v61 = .int .i64 kk ∧ v5 = .bool q ∧ Aside0 (q = (pre && (L.take kk).all (risesB s (-1)))) ∧ Aside0 (∃ n, wr = (w.alloc (.cells #[.slice A0 L.length c0, .slice A1 F.length c1, .slice A2 La.length c2, .slice A3 Fo.length c3, .bool b] 42)).drewN n))
     case atStart => exact ⟨0, pre, Nat.zero_le _, by omega, rfl, rfl, ⟨by simp⟩, ⟨_, rfl⟩⟩
     case round =>
      obtain ⟨kk, q, hkk, hg, rfl, rfl, HQ, ⟨n4, rfl⟩⟩ := hrel
      have hbig := HL.out
      by_cases hlt : kk < L.length
      ·have hltz : (kk : Int) < (L.length : Int) := by omega
       obtain ⟨ad, A', c', rfl, hcell, h1, h2⟩ := list_at (Kd.C_below H0.out.1 (pw_below_drewN (hbl (.cells #[.slice A0 L.length c0, .slice A1 F.length c1, .slice A2 La.length c2, .slice A3 Fo.length c3, .bool b] 42)) n4)) kk L[kk] (List.getElem?_eq_getElem hlt)
       have hy : Aside0 (L[kk]? = some L[kk]) := ⟨List.getElem?_eq_getElem hlt⟩
       have hyl := C_bound h2
       have KR := Aside0.mk (places_rises.calls (L[kk].length + 1) A' c' L[kk] s (risesB s (-1) L[kk]) _ h2 h1 (rises_eq s L[kk] hyl (by omega)))
       clear h1 h2 hyl
       generalize L[kk] = y at hcell hy KR
       cases q with
       | true =>
        go_wp2_with fail
        refine KR.out.mono ?_
        rintro e w1 ⟨rfl, ⟨⟨n5, rfl⟩⟩⟩
        go_wp2_with fail
        go_roundg (L.length - (kk + 1))
        case measure => omega
        case rel => exact ⟨kk + 1, _, by omega, by omega, by go_num, rfl, ⟨by rw [all_snoc L _ kk y hy.out, ← Bool.and_assoc, ← HQ.out, Bool.true_and]⟩, ⟨_, rfl⟩⟩
       | false =>
        go_wp2_with fail
        go_roundg (L.length - (kk + 1))
        case measure => omega
        case rel => exact ⟨kk + 1, false, by omega, by omega, by go_num, rfl, ⟨by rw [all_snoc L _ kk y hy.out, ← Bool.and_assoc, ← HQ.out, Bool.false_and]⟩, ⟨_, rfl⟩⟩
      ·have hltz : ¬ (kk : Int) < (L.length : Int) := by omega
       have hkk2 : kk = L.length := by omega
       have HQ2 : Aside0 (q = (pre && (L.take L.length).all (risesB s (-1)))) := ⟨by rw [HQ.out, hkk2]⟩
       have hltd : decide ((kk : Int) < (L.length : Int)) = false := by simpa using hltz
       clear hkk2 HQ hlt hbig
       go_wp2_with fail
       go_loopg [5, 75] Fo.length (fun gg v5 v75 wr => ∃ (kk : Nat) (q2 : Bool), kk ≤ Fo.length ∧ Fo.length - kk ≤ gg ∧ v75 = .int .i64 kk ∧ v5 = .bool q2 ∧ Aside0 (q2 = (q && (Fo.take kk).all (risesB L.length (-1)))) ∧ Aside0 (∃ n, wr = (w.alloc (.cells #[.slice A0 L.length c0, .slice A1 F.length c1, .slice A2 La.length c2, .slice A3 Fo.length c3, .bool b] 42)).drewN n))
       case atStart => exact ⟨0, q, Nat.zero_le _, by omega, rfl, rfl, ⟨by simp⟩, ⟨_, rfl⟩⟩
       case round =>
        obtain ⟨kk2, q2, hkk3, hg2, rfl, rfl, HQ3, ⟨n5, rfl⟩⟩ := hrel
        have hbig := HF.out
        by_cases hlt : kk2 < Fo.length
        ·have hltz2 : (kk2 : Int) < (Fo.length : Int) := by omega
         obtain ⟨ad, A', c', rfl, hcell, h1, h2⟩ := list_at (Kd.C_below H3.out.1 (pw_below_drewN (hbl (.cells #[.slice A0 L.length c0, .slice A1 F.length c1, .slice A2 La.length c2, .slice A3 Fo.length c3, .bool b] 42)) n5)) kk2 Fo[kk2] (List.getElem?_eq_getElem hlt)
         have hy : Aside0 (Fo[kk2]? = some Fo[kk2]) := ⟨List.getElem?_eq_getElem hlt⟩
         have hyl := C_bound h2
         have KR := Aside0.mk (fun W (hb : Below _ _ W) => places_rises.calls (Fo[kk2].length + 1) A' c' Fo[kk2] L.length (risesB L.length (-1) Fo[kk2]) W (Kd.C_below h2 hb) h1 (rises_eq L.length Fo[kk2] hyl (by omega)))
         clear h1 h2 hyl
         generalize Fo[kk2] = y at hcell hy KR
         cases q2 with
         | true =>
          go_wp2_with fail
          refine (KR.out _ (by repeat (first | exact Below.refl _ _ | apply pw_below_drewN | apply below_drew1))).mono ?_
          rintro e w1 ⟨rfl, ⟨⟨n6, rfl⟩⟩⟩
          go_wp2_with fail
          go_roundg (Fo.length - (kk2 + 1))
          case measure => omega
          case rel => exact ⟨kk2 + 1, _, by omega, by omega, by go_num, rfl, ⟨by rw [all_snoc Fo _ kk2 y hy.out, ← Bool.and_assoc, ← HQ3.out, Bool.true_and]⟩, ⟨_, rfl⟩⟩
         | false =>
          go_wp2_with fail
          go_roundg (Fo.length - (kk2 + 1))
          case measure => omega
          case rel => exact ⟨kk2 + 1, false, by omega, by omega, by go_num, rfl, ⟨by rw [all_snoc Fo _ kk2 y hy.out, ← Bool.and_assoc, ← HQ3.out, Bool.false_and]⟩, ⟨_, rfl⟩⟩
        ·have hltz2 : ¬ (kk2 : Int) < (Fo.length : Int) := by omega
         have hfin : Aside0 (checkC L F La Fo s = if q2 then 0 else 1) := ⟨by
          rw [HP.out, HQ3.out, HQ2.out, show kk2 = Fo.length by omega, Bool.and_assoc]⟩
         have hltd2 : decide ((kk2 : Int) < (Fo.length : Int)) = false := by simpa using hltz2
         clear hlt hbig HQ3 HQ2
         cases q2 with
         | true =>
          go_wp2
          go_ret
          exact ⟨by rw [hfin.out]; rfl, by repeat (first | exact Below.refl _ _ | apply pw_below_drewN | apply below_drew1 | apply below_alloc)⟩
         | false =>
          go_wp2
          go_ret
          exact ⟨by rw [hfin.out]; rfl, by repeat (first | exact Below.refl _ _ | apply pw_below_drewN | apply below_drew1 | apply below_alloc)⟩
end Go.Proofs.YtfonajakaimnoaaDoor.C11

/- places.Reverse. -/
namespace Go.Proofs.YtfonajakaimnoaaDoor.C11
open Go.RowKit Go.Proofs.YtfonajakaimnoaaDoorW.PrintWords Go.Proofs.YtfonajakaimnoaaDoorW.PrintLast Go.Proofs.YtfonajakaimnoaaDoorW.PrintMore Go.Proofs.YtfonajakaimnoaaDoor.Lib Lent Go.Proofs.YtfonajakaimnoaaDoor.Fn Go.Shelf Go.Proofs.YtfonajakaimnoaaDoor.Stl
set_option linter.unusedVariables false
set_option linter.unusedSimpArgs false
attribute [local go_sem] max2_int min2_int max_two min_two max_three min_three max_four min_four

/-- place x goes into the lists of all places that follow it -/
def turnRow (x : Nat) (T : LL) (l : List Int) : LL := l.foldl (fun T y => T.set y.toNat (T.getD y.toNat [] ++ [(x : Int)])) T
def turnK (Fo : LL) (n : Nat) : Nat → LL
 | 0 => List.replicate n []
 | k + 1 => turnRow k (turnK Fo n k) (Fo.getD k [])
def revOk (L : LL) (F La : List Int) (Fo : LL) : Bool := placedB L F La Fo && (F :: La :: Fo).all (risesB L.length (-1))

/-- what stands beside: what was handed in, and the answer's place -/
structure RB (w : World) (s : Nat) (A0 A1 A2 A3 : Value) (b : Bool) (W : World) : Prop where
 below : Below s w W
 old : W.heap[s]? = some (.cells #[A0, A1, A2, A3, .bool b] 42 (0, 0))
 res : W.heap[s + 1]? = some (.cells #[.slice none 0 0, .slice none 0 0, .slice none 0 0, .slice none 0 0, .bool false] 42 (0, 0))
theorem RB.step {w : World} {s : Nat} {A0 A1 A2 A3 : Value} {b : Bool} {W W' : World} (h : RB w s A0 A1 A2 A3 b W) (hb : Below W.heap.size W W') (hs : s = w.heap.size := by rfl) : RB w s A0 A1 A2 A3 b W' := by
 subst hs
 exact ⟨below_step h.below hb, (hb.block _ (blk_lt h.old)).trans h.old, (hb.block _ (blk_lt h.res)).trans h.res⟩
theorem RB.held {w : World} {s : Nat} {A0 A1 A2 A3 : Value} {b : Bool} {W : World} (h : RB w s A0 A1 A2 A3 b W) :
  W.cell? ⟨s, 0, none⟩ = some A0 ∧ W.cell? ⟨s, 1, none⟩ = some A1 ∧ W.cell? ⟨s, 2, none⟩ = some A2 ∧ W.cell? ⟨s, 3, none⟩ = some A3 ∧ W.cell? ⟨s, 4, none⟩ = some (.bool b) :=
 ⟨(blk_cell h.old 0).trans rfl, (blk_cell h.old 1).trans rfl, (blk_cell h.old 2).trans rfl, (blk_cell h.old 3).trans rfl, (blk_cell h.old 4).trans rfl⟩
theorem RB.set {w : World} {s : Nat} {A0 A1 A2 A3 : Value} {b : Bool} {W : World} (h : RB w s A0 A1 A2 A3 b W) {g : Nat} (hg : s + 1 < g) (j : Nat) (u : Value) : RB w s A0 A1 A2 A3 b (W.setCell ⟨g, j, none⟩ u) :=
 ⟨h.below.setCell (by show s ≤ g; omega) _, (Below.heap_setCell W ⟨g, j, none⟩ u s (by show s ≠ g; omega)).trans h.old, (Below.heap_setCell W ⟨g, j, none⟩ u (s + 1) (by show s + 1 ≠ g; omega)).trans h.res⟩

theorem turned_calls (B : Nat) (A : Option Addr) (c : Nat) (l : List Int) (A0 : Value) (n c0 : Nat) (w : World) (hr : Kd.C kI w A l.length l) (hc : l.length ≤ c) (A0' : Option Addr) (hA : A0 = .slice A0' n c0)
  (hB : w.cell? ⟨B, 0, none⟩ = some A0) :
  Calls Tryd.prog 81 (#[.slice A l.length c] ++ #[.pointer (some ⟨B, 0, none⟩)]) w fun e w' => e = .returned (.bool (!risesB n (-1) l)) ∧ Below w.heap.size w w' := by
 subst hA
 have hu := Tryd.underlying42
 have KC := Aside0.mk (places_rises.calls (l.length + 1) A c l n (risesB n (-1) l) w hr hc (rises_eq n l (C_bound hr) (by omega)))
 clear hr hc
 go_enter Tryd.func81, Tryd.ntmps81
 go_wp2_with fail
 refine KC.out.mono ?_
 rintro e w' ⟨rfl, ⟨⟨n5, rfl⟩⟩⟩
 go_wp2_with fail
 go_ret
 exact ⟨rfl, by repeat (first | exact Below.refl _ _ | apply pw_below_drewN | apply below_drew1)⟩
def tot (Fo : LL) : Nat → Nat
 | 0 => 0
 | k + 1 => tot Fo k + (Fo.getD k []).length
def rev.T3 : Bool × List (List Nat × List Nat) := (true, [([], []), ([0], [0]), ([1], [1]), ([], []), ([3], [3]), ([4, 2], [4]), ([], []), ([6], [6]), ([], []), ([8], [8]), ([9], [9]), ([10, 10], [10]), ([2, 5, 7, 11], [2, 5, 7, 11]), ([], []), ([13, 12, 5, 0, 1, 2, 3, 4, 5, 6, 7, 8, 9, 10, 11, 12, 13], [12, 13])])
def rev.B3 : List Nat := [0, 1, 3, 0, 8, 31, 0, 64, 0, 256, 768, 1792, 4095, 0, 16383]
theorem rev.tab3 : rtab .any (opsOf Tryd.f24 3) = rev.T3 := by kernel_rfl
theorem rev.bits3 : waitsOk rev.T3.2 rev.B3 = true := by kernel_rfl
def rev.T7 : Bool × List (List Nat × List Nat) := (true, [([], []), ([0], [0]), ([], []), ([2], [2]), ([3], [3]), ([1, 4, 3], [1, 4]), ([0, 1, 2, 3, 4, 5], []), ([6, 5, 5, 0, 1, 2, 3, 4, 5], [5, 6])])
def rev.B7 : List Nat := [0, 1, 0, 4, 12, 31, 63, 127]
theorem rev.tab7 : rtab .any (opsOf Tryd.f24 7) = rev.T7 := by kernel_rfl
theorem rev.bits7 : waitsOk rev.T7.2 rev.B7 = true := by kernel_rfl
def rev.T15 : Bool × List (List Nat × List Nat) := (true, [([], []), ([0], [0]), ([], []), ([], []), ([3], [3]), ([], []), ([4, 5], [4, 5]), ([6], [6]), ([], []), ([8], [8]), ([7, 9], [7, 9]), ([1, 2, 0, 1, 2, 3, 4, 5, 6, 7, 8, 9, 10], [1, 2]), ([11, 10, 10, 0, 1, 2, 3, 4, 5, 6, 7, 8, 9, 10], [10, 11])])
def rev.B15 : List Nat := [0, 1, 0, 0, 8, 0, 56, 120, 0, 256, 1016, 2047, 4095]
theorem rev.tab15 : rtab .any (opsOf Tryd.f24 15) = rev.T15 := by kernel_rfl
theorem rev.bits15 : waitsOk rev.T15.2 rev.B15 = true := by kernel_rfl
theorem types42 : ∀ q, q ∈ 25 :: kL.E → q ≠ 42 := by decide
theorem types42i : ∀ q, q ∈ 3 :: kI.E → q ≠ 42 := by decide
theorem types25i : ∀ q, q ∈ 3 :: kI.E → q ≠ 25 := by decide
/-- what stands while the answer is built -/
structure Ls (w : World) (N b3 g3 : Nat) (A0 A1 A2 A3 v0 v1 v2 v3 : Value) (b : Bool) (La F : List Int) (ok0 ok3 : Nat → Prop) (xs T : LL) (W : World) : Prop where
 rb : RB w w.heap.size A0 A1 A2 A3 b W
 row : W.heap[b3]? = some (.cells #[v0, v1, v2, v3, .bool b] 42 (0, 0))
 k0 : Kd.S kL 25 W w.heap.size ok0 v0 xs
 k1 : Kd.R kI 3 W w.heap.size (fun k => k < N) v1 La
 k2 : Kd.R kI 3 W w.heap.size (fun k => k < N) v2 F
 k3 : Kd.S kL 25 W w.heap.size ok3 v3 T
 sb : w.heap.size + 1 < b3
 bN : b3 < N
 gN : g3 < N
 nW : N ≤ W.heap.size
 o3 : v3.ownBlock = some g3
section
variable {w : World} {N b3 g3 : Nat} {A0 A1 A2 A3 v0 v1 v2 v3 : Value} {b : Bool} {La F : List Int} {ok0 ok3 : Nat → Prop} {xs T : LL} {W W' W1 : World}
theorem Ls.step (h : Ls w N b3 g3 A0 A1 A2 A3 v0 v1 v2 v3 b La F ok0 ok3 xs T W) (hb : Below W.heap.size W W') : Ls w N b3 g3 A0 A1 A2 A3 v0 v1 v2 v3 b La F ok0 ok3 xs T W' :=
 ⟨h.rb.step hb, (hb.block _ (blk_lt h.row)).trans h.row, Kd.S_below h.k0 hb, Kd.R_below h.k1 hb, Kd.R_below h.k2 hb, Kd.S_below h.k3 hb, h.sb, h.bN, h.gN, Nat.le_trans h.nW hb.size, h.o3⟩
theorem Ls.put0 (h : Ls w N b3 g3 A0 A1 A2 A3 v0 v1 v2 v3 b La F (fun k => N ≤ k) (fun k => k = g3) xs T W) (hg : W.grownBy W1 v0.ownBlock) (hb : Below w.heap.size w W1) {v0' : Value} {ys : LL} (ho : Kd.S kL 25 W1 w.heap.size (fun k => N ≤ k) v0' ys) :
  Ls w N b3 g3 A0 A1 A2 A3 v0' v1 v2 v3 b La F (fun k => N ≤ k) (fun k => k = g3) ys T (W1.setCell ⟨b3, 0, none⟩ v0') := by
 have hne : ∀ k, k < N → some k ≠ v0.ownBlock := fun k hk he => by
  have := (Kd.S_R h.k0).1 k he.symm
  omega
 have hs := h.sb
 have hbN := h.bN
 have hrow := blk_grown h.row hg (hne _ hbN)
 refine ⟨RB.set ⟨hb, blk_grown h.rb.old hg (hne _ (by omega)), blk_grown h.rb.res hg (hne _ (by omega))⟩ hs 0 v0', blk_put hrow 0 _ rfl, Kd.S_set ho hrow types42 0 v0', Kd.R_set (Kd.R_grown h.k1 hg hne) hrow types42i 0 v0', Kd.R_set (Kd.R_grown h.k2 hg hne) hrow types42i 0 v0', Kd.S_set (Kd.S_grown h.k3 hg (fun k hk => hne k (by have := h.gN; omega))) hrow types42 0 v0', hs, hbN, h.gN, ?_, h.o3⟩
 have := hg.size
 have := h.nW
 simpa [World.setCell] using (by omega : N ≤ W1.heap.size)
theorem setCells_one (W : World) (g o : Nat) (u : Value) : W.setCells g o [u] = W.setCell ⟨g, o, none⟩ u := by simp [World.setCells]
theorem Ls.put3 {n c : Nat} (h : Ls w N b3 g3 A0 A1 A2 A3 v0 v1 v2 (.slice (some ⟨g3, 0, none⟩) n c) b La F (fun k => k < N ∧ k ≠ g3) (fun k => k = g3 ∨ N ≤ k) xs T W) {oki : Nat → Prop} {u : Value} {y : Nat} (hy : y < n)
  (hoki : ∀ k, oki k → (k = g3 ∨ N ≤ k) ∧ k ≠ g3) (hu : Kd.R kI 3 W w.heap.size oki u (T.getD y [])) (hH : Kd.H kL 25 W w.heap.size (fun k => k = g3 ∨ N ≤ k) (.slice (some ⟨g3, 0, none⟩) n c) T (y : Int) oki [u])
  (hg : W.grownBy W1 u.ownBlock) (hb : Below w.heap.size w W1) {u' : Value} {row' : List Int} (ho : Kd.R kI 3 W1 w.heap.size (fun k => oki k ∨ (k = g3 ∨ N ≤ k) ∧ W.heap.size ≤ k) u' row') :
  Ls w N b3 g3 A0 A1 A2 A3 v0 v1 v2 (.slice (some ⟨g3, 0, none⟩) n c) b La F (fun k => k < N ∧ k ≠ g3) (fun k => k = g3 ∨ N ≤ k) xs (T.set y row') (W1.setCell ⟨g3, y, none⟩ u') := by
 have hne : ∀ k, k < N → some k ≠ u.ownBlock := fun k hk he => by
  have := hoki k (hu.1 k he.symm)
  omega
 have hgN := h.gN
 obtain ⟨cells, hcells⟩ := Kd.S_typed h.k3 g3 (by simp [Value.ownBlock])
 have hrow3 := blk_grown hcells hg (hne _ hgN)
 have hs := h.sb
 have hbN := h.bN
 have e1 : w.heap.size ≠ g3 := blk_ne h.rb.old hcells (by decide)
 have e2 : w.heap.size + 1 ≠ g3 := blk_ne h.rb.res hcells (by decide)
 have e3 : b3 ≠ g3 := blk_ne h.row hcells (by decide)
 have hbase : w.heap.size ≤ g3 := Kd.S_base h.k3 g3 (by simp [Value.ownBlock])
 have H1 := Kd.H_grown (Kd.H_widen hH) hg (fun k hk => .inl (hu.1 k hk))
 obtain ⟨hS, _⟩ := Kd.S_seg0 H1 (Int.natCast_nonneg y) (by exact_mod_cast hy) (seg := [u']) (j := 0) (Nat.le_refl 1) (x' := row') (okp := fun k => oki k ∨ (k = g3 ∨ N ≤ k) ∧ W.heap.size ≤ k) (Kd.M_row ho) (fun _ hk => hk)
 have hS' : Kd.S kL 25 (W1.setCell ⟨g3, y, none⟩ u') w.heap.size (fun k => k = g3 ∨ N ≤ k) (.slice (some ⟨g3, 0, none⟩) n c) (T.set y row') := by
  rw [setCells_one] at hS
  rw [show ((y : Int)).toNat * kL.sz + 0 = y from Nat.mul_one _] at hS
  exact hS
 refine ⟨⟨hb.setCell hbase _, ?_, ?_⟩, ?_, Kd.S_far (p := ⟨g3, y, none⟩) (Kd.S_grown h.k0 hg (fun k hk => hne k hk.1)) (fun _ hk => hk.2) u', Kd.R_set (Kd.R_grown h.k1 hg hne) hrow3 types25i y u', Kd.R_set (Kd.R_grown h.k2 hg hne) hrow3 types25i y u', hS', hs, hbN, hgN, ?_, h.o3⟩
 ·exact (Below.heap_setCell W1 ⟨g3, y, none⟩ u' _ e1).trans (blk_grown h.rb.old hg (hne _ (by omega)))
 ·exact (Below.heap_setCell W1 ⟨g3, y, none⟩ u' _ e2).trans (blk_grown h.rb.res hg (hne _ (by omega)))
 ·exact (Below.heap_setCell W1 ⟨g3, y, none⟩ u' _ e3).trans (blk_grown h.row hg (hne _ hbN))
 ·have := hg.size
  have := h.nW
  simpa [World.setCell] using (by omega : N ≤ W1.heap.size)
/-- from the first loop to the second -/
theorem Ls.over (h : Ls w N b3 g3 A0 A1 A2 A3 v0 v1 v2 v3 b La F (fun k => N ≤ k) (fun k => k = g3) xs T W) :
  Ls w W.heap.size b3 g3 A0 A1 A2 A3 v0 v1 v2 v3 b La F (fun k => k < W.heap.size ∧ k ≠ g3) (fun k => k = g3 ∨ W.heap.size ≤ k) xs T W := by
 have hgN := h.gN
 have hnW := h.nW
 have hbN := h.bN
 exact ⟨h.rb, h.row, Kd.S_mono (Kd.S_bound h.k0) (fun k hk => ⟨hk.2.2.1, by have := hk.1; omega⟩), Kd.R_mono h.k1 (fun k hk => by omega), Kd.R_mono h.k2 (fun k hk => by omega), Kd.S_mono h.k3 (fun k hk => .inl hk), h.sb, by omega, by omega, Nat.le_refl _, h.o3⟩
end
theorem turnRow_length (x : Nat) (T : LL) (l : List Int) : (turnRow x T l).length = T.length := by
 induction l generalizing T with
 | nil => rfl
 | cons y r ih => exact (ih _).trans (by simp)
theorem turnK_length (Fo : LL) (n k : Nat) : (turnK Fo n k).length = n := by
 induction k with
 | zero => simp [turnK]
 | succ k ih => exact (turnRow_length _ _ _).trans ih
theorem turnRow_snoc (x : Nat) (T : LL) (l : List Int) (k y : Nat) (h : l[k]? = some (y : Int)) : turnRow x T (l.take (k + 1)) = (turnRow x T (l.take k)).set y ((turnRow x T (l.take k)).getD y [] ++ [(x : Int)]) := by
 rw [List.take_add_one, h]
 simp [turnRow, List.foldl_append]
theorem turnRow_bound (x : Nat) (l : List Int) : ∀ (T : LL) (B : Nat), (∀ y, (T.getD y []).length ≤ B) → ∀ y, ((turnRow x T l).getD y []).length ≤ B + l.length := by
 induction l with
 | nil => exact fun T B h y => h y
 | cons z r ih =>
  intro T B h y
  have := ih (T.set z.toNat (T.getD z.toNat [] ++ [(x : Int)])) (B + 1) (fun q => by
   rw [List.getD_eq_getElem?_getD, List.getElem?_set]
   split
   ·split
    ·have := h z.toNat
     simp only [Option.getD_some, List.length_append, List.length_singleton]
     omega
    ·simp
   ·have := h q
    rw [List.getD_eq_getElem?_getD] at this
    omega) y
  show ((turnRow x (T.set z.toNat (T.getD z.toNat [] ++ [(x : Int)])) r).getD y []).length ≤ _
  simp only [List.length_cons]
  omega
theorem turnK_bound (Fo : LL) (n k : Nat) : ∀ y, ((turnK Fo n k).getD y []).length ≤ tot Fo k := by
 induction k with
 | zero => intro y; simp only [turnK, List.getD_eq_getElem?_getD, List.getElem?_replicate]; split <;> simp [tot]
 | succ k ih => exact turnRow_bound k _ _ _ ih
theorem rises_iff (n : Int) : ∀ (l : List Int) (a : Int), risesB n a l = true ↔ l.Pairwise (· < ·) ∧ ∀ x ∈ l, a < x ∧ x < n := by
 intro l
 induction l with
 | nil => intro a; simp [risesB]
 | cons x r ih =>
  intro a
  simp only [risesB, Bool.and_eq_true, Bool.not_eq_true', decide_eq_false_iff_not, ih, List.pairwise_cons, List.mem_cons, forall_eq_or_imp]
  constructor
  ·rintro ⟨h1, h2, h3, h4⟩
   exact ⟨⟨fun y hy => (h4 y hy).1, h3⟩, ⟨by omega, by omega⟩, fun y hy => ⟨by have := (h4 y hy).1; omega, (h4 y hy).2⟩⟩
  ·rintro ⟨⟨h1, h2⟩, ⟨h3, h4⟩, h5⟩
   exact ⟨by omega, by omega, h2, fun y hy => ⟨h1 y hy, (h5 y hy).2⟩⟩
/-- one row goes round -/
theorem turnRow_get (x : Nat) : ∀ (l : List Int) (T : LL), (∀ q ∈ l, 0 ≤ q ∧ q < (T.length : Int)) → l.Pairwise (· < ·) → ∀ y : Nat, (turnRow x T l).getD y [] = T.getD y [] ++ (if (y : Int) ∈ l then [(x : Int)] else []) := by
 intro l
 induction l with
 | nil => intro T _ _ y; simp [turnRow]
 | cons z r ih =>
  intro T hb hp y
  have hz := hb z List.mem_cons_self
  have hp' := List.pairwise_cons.1 hp
  have := ih (T.set z.toNat (T.getD z.toNat [] ++ [(x : Int)])) (fun q hq => by rw [List.length_set]; exact hb q (List.mem_cons_of_mem _ hq)) hp'.2 y
  show (turnRow x (T.set z.toNat (T.getD z.toNat [] ++ [(x : Int)])) r).getD y [] = _
  rw [this]
  obtain ⟨z, rfl⟩ := Int.eq_ofNat_of_zero_le hz.1
  have hzl : z < T.length := by omega
  rw [show ((z : Int)).toNat = z from rfl]
  by_cases hy : y = z
  ·subst hy
   have h1 : ¬ (y : Int) ∈ r := fun h => by have := hp'.1 _ h; omega
   have h2 : (T.set y (T.getD y [] ++ [(x : Int)])).getD y [] = T.getD y [] ++ [(x : Int)] := by
    rw [List.getD_eq_getElem?_getD, List.getElem?_set_self hzl]; rfl
   rw [h2, if_neg h1, if_pos List.mem_cons_self, List.append_nil]
  ·have h2 : (T.set z (T.getD z [] ++ [(x : Int)])).getD y [] = T.getD y [] := by
    rw [List.getD_eq_getElem?_getD, List.getElem?_set_ne (fun h => hy h.symm), ← List.getD_eq_getElem?_getD]
   rw [h2]
   by_cases h3 : (y : Int) ∈ r
   ·rw [if_pos h3, if_pos (List.mem_cons_of_mem _ h3)]
   ·rw [if_neg h3, if_neg (fun h => by
     rcases List.mem_cons.1 h with e | e
     ·exact hy (by omega)
     ·exact h3 e)]
theorem turnK_len (Fo : LL) (n : Nat) (hFo : ∀ l ∈ Fo, risesB n (-1) l = true) : ∀ k y, ((turnK Fo n k).getD y []).length ≤ k := by
 intro k
 induction k with
 | zero => intro y; simp only [turnK, List.getD_eq_getElem?_getD, List.getElem?_replicate]; split <;> simp
 | succ k ih =>
  intro y
  have hx : ∀ q ∈ Fo.getD k [], 0 ≤ q ∧ q < (n : Int) := by
   rw [List.getD_eq_getElem?_getD]
   cases h : Fo[k]? with
   | none => intro q hq; cases hq
   | some l => exact fun q hq => ⟨by have := ((rises_iff n l (-1)).1 (hFo l (List.mem_of_getElem? h))).2 q hq; omega, (((rises_iff n l (-1)).1 (hFo l (List.mem_of_getElem? h))).2 q hq).2⟩
  have hp : (Fo.getD k []).Pairwise (· < ·) := by
   rw [List.getD_eq_getElem?_getD]
   cases h : Fo[k]? with
   | none => exact List.Pairwise.nil
   | some l => exact ((rises_iff n l (-1)).1 (hFo l (List.mem_of_getElem? h))).1
  show ((turnRow k (turnK Fo n k) (Fo.getD k [])).getD y []).length ≤ _
  rw [turnRow_get k _ _ (by rw [turnK_length]; exact hx) hp y, List.length_append]
  have := ih y
  split
  ·rw [List.length_singleton]; omega
  ·rw [List.length_nil]; omega
theorem turnRow_part (x n : Nat) (T : LL) (l : List Int) (j : Nat) (hT : T.length = n) (hl : risesB n (-1) l = true) (y : Nat) : ((turnRow x T (l.take j)).getD y []).length ≤ (T.getD y []).length + 1 := by
 have h := (rises_iff n l (-1)).1 hl
 rw [turnRow_get x (l.take j) T (fun q hq => by have := h.2 q (List.mem_of_mem_take hq); rw [hT]; exact ⟨by omega, this.2⟩) (h.1.sublist (List.take_sublist j l)) y, List.length_append]
 split
 ·rw [List.length_singleton]; exact Nat.le_refl _
 ·rw [List.length_nil]; omega
theorem tot_mono (Fo : LL) {j k : Nat} (h : j ≤ k) : tot Fo j ≤ tot Fo k := by
 induction h with
 | refl => exact Nat.le_refl _
 | step _ ih => exact Nat.le_trans ih (Nat.le_add_right _ _)
section
variable {w : World} {N b3 g3 : Nat} {A0 A1 A2 A3 v0 v1 v2 : Value} {b : Bool} {La F : List Int} {xs T : LL} {W W1 : World}
theorem put3_at {n c : Nat} (h : Ls w N b3 g3 A0 A1 A2 A3 v0 v1 v2 (.slice (some ⟨g3, 0, none⟩) n c) b La F (fun k => k < N ∧ k ≠ g3) (fun k => k = g3 ∨ N ≤ k) xs T W) {oki : Nat → Prop} {u : Value} {y : Nat} (hy : y < n)
  (hoki : ∀ k, oki k → (k = g3 ∨ N ≤ k) ∧ k ≠ g3) (hu : Kd.R kI 3 W w.heap.size oki u (T.getD y [])) (hH : Kd.H kL 25 W w.heap.size (fun k => k = g3 ∨ N ≤ k) (.slice (some ⟨g3, 0, none⟩) n c) T (y : Int) oki [u])
  (hg : W.grownBy W1 u.ownBlock) : W1.cell? ⟨b3, 3, none⟩ = some (.slice (some ⟨g3, 0, none⟩) n c) ∧ W1.cell? ⟨g3, y, none⟩ = some u ∧ W1.frozen? ⟨g3, y, none⟩ = false := by
 have hne : ∀ k, k < N → some k ≠ u.ownBlock := fun k hk he => by
  have := hoki k (hu.1 k he.symm)
  omega
 have H1 := Kd.H_grown hH hg (fun k hk => hu.1 k hk)
 obtain ⟨h2, h3⟩ := Kd.H_at H1 (Int.natCast_nonneg y) (by exact_mod_cast hy)
 have e : ((y : Int)).toNat * kL.sz + 0 = y := Nat.mul_one _
 refine ⟨(blk_cell (blk_grown h.row hg (hne _ h.bN)) 3).trans rfl, ?_, ?_⟩
 ·have := h2 0 u rfl
  rwa [e] at this
 ·have := h3 0
  rwa [e] at this
end
theorem rev_rows {L : LL} {F La : List Int} {Fo : LL} (h : revOk L F La Fo = true) : (risesB L.length (-1) F = true ∧ risesB L.length (-1) La = true) ∧ ∀ l ∈ Fo, risesB L.length (-1) l = true := by
 have h2 : (F :: La :: Fo).all (risesB L.length (-1)) = true := by
  unfold revOk at h
  exact (Bool.and_eq_true _ _ ▸ h).2
 rw [List.all_eq_true] at h2
 exact ⟨⟨h2 _ List.mem_cons_self, h2 _ (List.mem_cons_of_mem _ List.mem_cons_self)⟩, fun l hl => h2 l (List.mem_cons_of_mem _ (List.mem_cons_of_mem _ hl))⟩
/-- what the answer is -/
def revPost (L : LL) (F La : List Int) (Fo : LL) (b : Bool) (w : World) : Ending → World → Prop := fun e w' => ∃ v0 v1 v2 v3, e = .returned (.agg #[v0, v1, v2, v3, .bool (revOk L F La Fo && b)]) ∧
   Kd.R kL 25 w' w.heap.size (fun _ => True) v0 (if revOk L F La Fo then L else []) ∧ Kd.R kI 3 w' w.heap.size (fun _ => True) v1 (if revOk L F La Fo then La else []) ∧ Kd.R kI 3 w' w.heap.size (fun _ => True) v2 (if revOk L F La Fo then F else []) ∧
   Kd.R kL 25 w' w.heap.size (fun _ => True) v3 (if revOk L F La Fo then turnK Fo L.length L.length else []) ∧ Below w.heap.size w w'
theorem R_set5 {α : Type} {d : Kd α} {e base : Nat} {ok : Nat → Prop} {v : Value} {xs : List α} {W : World} {g : Nat} {cells : Array Value} (h : d.R e W base ok v xs) (hb : W.heap[g]? = some (.cells cells 42 (0, 0))) (ht : ∀ q, q ∈ e :: d.E → q ≠ 42) (u0 u1 u2 u3 u4 : Value) :
  d.R e (((((W.setCell ⟨g, 0, none⟩ u0).setCell ⟨g, 1, none⟩ u1).setCell ⟨g, 2, none⟩ u2).setCell ⟨g, 3, none⟩ u3).setCell ⟨g, 4, none⟩ u4) base (fun _ => True) v xs :=
 Kd.R_mono (Kd.R_far (p := ⟨g, 4, none⟩) (Kd.R_far (p := ⟨g, 3, none⟩) (Kd.R_far (p := ⟨g, 2, none⟩) (Kd.R_far (p := ⟨g, 1, none⟩) (Kd.R_far (p := ⟨g, 0, none⟩) (Kd.R_types h hb ht) (fun _ hk => hk.2) u0) (fun _ hk => hk.2) u1) (fun _ hk => hk.2) u2) (fun _ hk => hk.2) u3) (fun _ hk => hk.2) u4) (fun _ _ => trivial)
end Go.Proofs.YtfonajakaimnoaaDoor.C11

namespace Go.Proofs.YtfonajakaimnoaaDoor.Lib
open Go.RowKit Go.Proofs.YtfonajakaimnoaaDoorW.PrintWords Go.Proofs.YtfonajakaimnoaaDoorW.PrintLast Go.Proofs.YtfonajakaimnoaaDoorW.PrintMore
attribute [local go_sem] max2_int min2_int max_two min_two max_three min_three max_four min_four   -- for this text's walks alone
set_option linter.unusedVariables false
set_option linter.unusedSimpArgs false

/-! ### caesuraref11_rises: function 86 -/
def caesuraref11_rises.l0 : Nat → List Int → Int → Int → Option (Bool)
 | 0, _, _, _ => none
 | k + 1, x0, x1, x5 => if x5 < (x0.length : Int) then (if 0 ≤ x5 then (if (rd x0 x5) < 0 then (some false) else (if (rd x0 x5) ≥ x1 then (some false) else (if x5 > 0 then (if 0 ≤ (wrap64 (x5 - 1)) then (if (wrap64 (x5 - 1)) < (x0.length : Int) then (if (rd x0 x5) ≤ (rd x0 (wrap64 (x5 - 1))) then (some false) else (caesuraref11_rises.l0 k x0 x1 (wrap64 (x5 + 1)))) else (none)) else (none)) else (caesuraref11_rises.l0 k x0 x1 (wrap64 (x5 + 1)))))) else (none)) else (some true)
def caesuraref11_rises.f (k : Nat) (l0 : List Int) (a1 : Int) : Option (Bool) := caesuraref11_rises.l0 k l0 a1 0
theorem caesuraref11_rises.mono_l : ∀ k, (∀ y0 y1 y2, LeO (caesuraref11_rises.l0 k y0 y1 y2) (caesuraref11_rises.l0 (k + 1) y0 y1 y2))
 | 0 => fun _ _ _ r h => by simp [caesuraref11_rises.l0] at h
 | k + 1 => by
  have ih0 := caesuraref11_rises.mono_l k
  ·intro y0 y1 y2
   unfold caesuraref11_rises.l0
   repeat' first
   | (with_reducible exact ih0 _ _ _)
   | (with_reducible exact LeO.refl _)
   | (with_reducible exact LeO.none _)
   | (with_reducible refine LeO.ite ?_ ?_)
   | (with_reducible refine LeO.bind ?_ (fun _ => ?_))
   | exact ih0 _ _ _
   | exact LeO.none _
   | refine LeO.ite ?_ ?_
   | refine LeO.bind ?_ (fun _ => ?_)
theorem caesuraref11_rises.mono : ∀ a0 a1 k, LeO (caesuraref11_rises.f k a0 a1) (caesuraref11_rises.f (k + 1) a0 a1) := by
 intro a0 a1 k
 have ih0 := caesuraref11_rises.mono_l k
 unfold caesuraref11_rises.f
 repeat' first
   | (with_reducible exact ih0 _ _ _)
   | (with_reducible exact LeO.refl _)
   | (with_reducible exact LeO.none _)
   | (with_reducible refine LeO.ite ?_ ?_)
   | (with_reducible refine LeO.bind ?_ (fun _ => ?_))
   | exact ih0 _ _ _
   | exact LeO.none _
   | refine LeO.ite ?_ ?_
   | refine LeO.bind ?_ (fun _ => ?_)
set_option maxHeartbeats 8000000 in
set_option maxRecDepth 100000 in
theorem caesuraref11_rises.calls (k : Nat) (A0 : Option Addr) (c0 : Nat) (l0 : List Int) (a1 : Int) (r : Bool) (w : World) (hr0 : Kd.C (Kd.int .i64) w A0 l0.length l0) (hc0 : l0.length ≤ c0) (h : caesuraref11_rises.f k l0 a1 = some r) :
  Calls Tryd.prog 86 #[.slice A0 l0.length c0, .int .i64 a1] w fun e w' => e = .returned (.bool r) ∧ Drawn0 w w' := by
 have HR0 := Aside0.mk hr0
 have HC0 := Aside0.mk hc0
 clear hr0 hc0
 have H : (caesuraref11_rises.l0 k l0 a1 0) = some r := h
 clear h
 have H' := Aside0.mk H
 clear H
 go_enter Tryd.func86, Tryd.ntmps86
 go_wp2
 repeat (go_quiet (fail); try go_wp2)
 go_loopg [5] k (fun kq v5 w' => ∃ (x5_1 : Int), v5 = .int .i64 x5_1 ∧ Aside0 (caesuraref11_rises.l0 kq l0 a1 x5_1 = some r) ∧ Aside0 (kq ≤ k) ∧ Drawn0 w w')
 case atStart => exact ⟨(0), (by first | rfl | (simp; done) | (simp [*]; done)), H', ⟨Nat.le_refl _⟩, by repeat (first | exact Drawn0.refl _ | apply Drawn0.step)⟩
 case round =>
  clear H'
  try clear p2
  obtain ⟨x5_1, rfl, HA, HK1, ⟨m1, rfl⟩⟩ := hrel
  cases gk with
  | zero => exact absurd HA.out (by simp [caesuraref11_rises.l0])
  | succ k1 =>
   have H := HA.out
   clear HA
   simp only [caesuraref11_rises.l0] at H
   by_cases c3 : x5_1 < (l0.length : Int)
   ·rw [if_pos c3] at H
    have c3b0 : decide (x5_1 < (l0.length : Int)) = true := decide_eq_true c3
    clear c3
    by_cases c4 : 0 ≤ x5_1
    ·rw [if_pos c4] at H
     have c4b0 : decide (0 ≤ x5_1) = true := decide_eq_true c4
     clear c4
     by_cases c5 : (rd l0 x5_1) < 0
     ·rw [if_pos c5] at H
      have c5b0 : decide ((rd l0 x5_1) < 0) = true := decide_eq_true c5
      clear c5
      obtain rfl := Option.some.inj H
      have p298 : 0 ≤ (x5_1 : Int) := of_decide_eq_true (by first | (with_reducible assumption) | assumption)
      have q298 : x5_1 < (l0.length : Int) := of_decide_eq_true (by first | (with_reducible assumption) | assumption)
      obtain ⟨ad298, e298, hx298_0⟩ := Kd.at_int HR0.out x5_1 p298 q298
      cases e298
      replace p298 := eq_true p298
      replace q298 := eq_true q298
      go_wp2
      repeat (go_quiet (fail); try go_wp2)
      go_ret
      exact ⟨by first | rfl | (simp; done) | (simp [*]; done), by repeat (first | exact Drawn0.refl _ | apply Drawn0.step)⟩
     ·rw [if_neg c5] at H
      have c5b0 : decide ((rd l0 x5_1) < 0) = false := decide_eq_false c5
      clear c5
      by_cases c6 : (rd l0 x5_1) ≥ a1
      ·rw [if_pos c6] at H
       have c6b0 : decide (a1 ≤ (rd l0 x5_1)) = true := decide_eq_true c6
       clear c6
       obtain rfl := Option.some.inj H
       have p298 : 0 ≤ (x5_1 : Int) := of_decide_eq_true (by first | (with_reducible assumption) | assumption)
       have q298 : x5_1 < (l0.length : Int) := of_decide_eq_true (by first | (with_reducible assumption) | assumption)
       obtain ⟨ad298, e298, hx298_0⟩ := Kd.at_int HR0.out x5_1 p298 q298
       cases e298
       replace p298 := eq_true p298
       replace q298 := eq_true q298
       have p299 : 0 ≤ (x5_1 : Int) := of_decide_eq_true (by first | (with_reducible assumption) | assumption)
       have q299 : x5_1 < (l0.length : Int) := of_decide_eq_true (by first | (with_reducible assumption) | assumption)
       obtain ⟨ad299, e299, hx299_0⟩ := Kd.at_int HR0.out x5_1 p299 q299
       obtain rfl : ad298 = ad299 := (by injection e299)
       replace p299 := eq_true p299
       replace q299 := eq_true q299
       go_wp2
       repeat (go_quiet (fail); try go_wp2)
       go_ret
       exact ⟨by first | rfl | (simp; done) | (simp [*]; done), by repeat (first | exact Drawn0.refl _ | apply Drawn0.step)⟩
      ·rw [if_neg c6] at H
       have c6b0 : decide (a1 ≤ (rd l0 x5_1)) = false := decide_eq_false c6
       clear c6
       by_cases c7 : x5_1 > 0
       ·rw [if_pos c7] at H
        have c7b0 : decide (0 < x5_1) = true := decide_eq_true c7
        clear c7
        obtain ⟨ji8, hji8⟩ : ∃ j_ : Int, (wrap64 (x5_1 - 1)) = j_ := ⟨_, rfl⟩
        replace H : (if 0 ≤ (ji8) then (if (ji8) < (l0.length : Int) then (if (rd l0 x5_1) ≤ (rd l0 (ji8)) then (some false) else (caesuraref11_rises.l0 k1 l0 a1 (wrap64 (x5_1 + 1)))) else (none)) else (none)) = some r := by first | (rw [hji8] at H; exact H) | (simp only [hji8] at H ⊢; exact H)
        have hji8w : (IntKind.i64.wrap (x5_1 - 1)) = ji8 := (i64_w _).trans hji8
        by_cases c9 : 0 ≤ (ji8)
        ·rw [if_pos c9] at H
         have c9b0 : decide (0 ≤ (ji8)) = true := decide_eq_true c9
         clear c9
         by_cases c10 : (ji8) < (l0.length : Int)
         ·rw [if_pos c10] at H
          have c10b0 : decide ((ji8) < (l0.length : Int)) = true := decide_eq_true c10
          clear c10
          by_cases c11 : (rd l0 x5_1) ≤ (rd l0 (ji8))
          ·rw [if_pos c11] at H
           have c11b0 : decide ((rd l0 x5_1) ≤ (rd l0 (ji8))) = true := decide_eq_true c11
           clear c11
           obtain rfl := Option.some.inj H
           have p298 : 0 ≤ (x5_1 : Int) := of_decide_eq_true (by first | (with_reducible assumption) | assumption)
           have q298 : x5_1 < (l0.length : Int) := of_decide_eq_true (by first | (with_reducible assumption) | assumption)
           obtain ⟨ad298, e298, hx298_0⟩ := Kd.at_int HR0.out x5_1 p298 q298
           cases e298
           replace p298 := eq_true p298
           replace q298 := eq_true q298
           have p299 : 0 ≤ (x5_1 : Int) := of_decide_eq_true (by first | (with_reducible assumption) | assumption)
           have q299 : x5_1 < (l0.length : Int) := of_decide_eq_true (by first | (with_reducible assumption) | assumption)
           obtain ⟨ad299, e299, hx299_0⟩ := Kd.at_int HR0.out x5_1 p299 q299
           obtain rfl : ad298 = ad299 := (by injection e299)
           replace p299 := eq_true p299
           replace q299 := eq_true q299
           have p300 : 0 ≤ (x5_1 : Int) := of_decide_eq_true (by first | (with_reducible assumption) | assumption)
           have q300 : x5_1 < (l0.length : Int) := of_decide_eq_true (by first | (with_reducible assumption) | assumption)
           obtain ⟨ad300, e300, hx300_0⟩ := Kd.at_int HR0.out x5_1 p300 q300
           obtain rfl : ad298 = ad300 := (by injection e300)
           replace p300 := eq_true p300
           replace q300 := eq_true q300
           have p301 : 0 ≤ ((ji8) : Int) := of_decide_eq_true (by first | (with_reducible assumption) | assumption)
           have q301 : (ji8) < (l0.length : Int) := of_decide_eq_true (by first | (with_reducible assumption) | assumption)
           obtain ⟨ad301, e301, hx301_0⟩ := Kd.at_int HR0.out (ji8) p301 q301
           obtain rfl : ad298 = ad301 := (by injection e301)
           replace p301 := eq_true p301
           replace q301 := eq_true q301
           go_wp2
           repeat (go_quiet (fail); try go_wp2)
           go_ret
           exact ⟨by first | rfl | (simp; done) | (simp only [← hji8] <;> (first | rfl | simp)) | (simp [*]; done), by repeat (first | exact Drawn0.refl _ | apply Drawn0.step)⟩
          ·rw [if_neg c11] at H
           have c11b0 : decide ((rd l0 x5_1) ≤ (rd l0 (ji8))) = false := decide_eq_false c11
           clear c11
           have H' := Aside0.mk H
           clear H
           have p298 : 0 ≤ (x5_1 : Int) := of_decide_eq_true (by first | (with_reducible assumption) | assumption)
           have q298 : x5_1 < (l0.length : Int) := of_decide_eq_true (by first | (with_reducible assumption) | assumption)
           obtain ⟨ad298, e298, hx298_0⟩ := Kd.at_int HR0.out x5_1 p298 q298
           cases e298
           replace p298 := eq_true p298
           replace q298 := eq_true q298
           have p299 : 0 ≤ (x5_1 : Int) := of_decide_eq_true (by first | (with_reducible assumption) | assumption)
           have q299 : x5_1 < (l0.length : Int) := of_decide_eq_true (by first | (with_reducible assumption) | assumption)
           obtain ⟨ad299, e299, hx299_0⟩ := Kd.at_int HR0.out x5_1 p299 q299
           obtain rfl : ad298 = ad299 := (by injection e299)
           replace p299 := eq_true p299
           replace q299 := eq_true q299
           have p300 : 0 ≤ (x5_1 : Int) := of_decide_eq_true (by first | (with_reducible assumption) | assumption)
           have q300 : x5_1 < (l0.length : Int) := of_decide_eq_true (by first | (with_reducible assumption) | assumption)
           obtain ⟨ad300, e300, hx300_0⟩ := Kd.at_int HR0.out x5_1 p300 q300
           obtain rfl : ad298 = ad300 := (by injection e300)
           replace p300 := eq_true p300
           replace q300 := eq_true q300
           have p301 : 0 ≤ ((ji8) : Int) := of_decide_eq_true (by first | (with_reducible assumption) | assumption)
           have q301 : (ji8) < (l0.length : Int) := of_decide_eq_true (by first | (with_reducible assumption) | assumption)
           obtain ⟨ad301, e301, hx301_0⟩ := Kd.at_int HR0.out (ji8) p301 q301
           obtain rfl : ad298 = ad301 := (by injection e301)
           replace p301 := eq_true p301
           replace q301 := eq_true q301
           go_wp2
           repeat (go_quiet (fail); try go_wp2)
           go_roundg k1
           case measure => have := HK1.out; omega
           case rel => exact ⟨(wrap64 (x5_1 + 1)), (by first | rfl | (simp; done) | (simp [*]; done)), H', ⟨by have := HK1.out; omega⟩, by repeat (first | exact Drawn0.refl _ | apply Drawn0.step)⟩
         ·rw [if_neg c10] at H
          exact absurd H (by simp)
        ·rw [if_neg c9] at H
         exact absurd H (by simp)
       ·rw [if_neg c7] at H
        have c7b0 : decide (0 < x5_1) = false := decide_eq_false c7
        clear c7
        have H' := Aside0.mk H
        clear H
        have p298 : 0 ≤ (x5_1 : Int) := of_decide_eq_true (by first | (with_reducible assumption) | assumption)
        have q298 : x5_1 < (l0.length : Int) := of_decide_eq_true (by first | (with_reducible assumption) | assumption)
        obtain ⟨ad298, e298, hx298_0⟩ := Kd.at_int HR0.out x5_1 p298 q298
        cases e298
        replace p298 := eq_true p298
        replace q298 := eq_true q298
        have p299 : 0 ≤ (x5_1 : Int) := of_decide_eq_true (by first | (with_reducible assumption) | assumption)
        have q299 : x5_1 < (l0.length : Int) := of_decide_eq_true (by first | (with_reducible assumption) | assumption)
        obtain ⟨ad299, e299, hx299_0⟩ := Kd.at_int HR0.out x5_1 p299 q299
        obtain rfl : ad298 = ad299 := (by injection e299)
        replace p299 := eq_true p299
        replace q299 := eq_true q299
        go_wp2
        repeat (go_quiet (fail); try go_wp2)
        go_roundg k1
        case measure => have := HK1.out; omega
        case rel => exact ⟨(wrap64 (x5_1 + 1)), (by first | rfl | (simp; done) | (simp [*]; done)), H', ⟨by have := HK1.out; omega⟩, by repeat (first | exact Drawn0.refl _ | apply Drawn0.step)⟩
    ·rw [if_neg c4] at H
     exact absurd H (by simp)
   ·rw [if_neg c3] at H
    have c3b0 : decide (x5_1 < (l0.length : Int)) = false := decide_eq_false c3
    clear c3
    obtain rfl := Option.some.inj H
    go_wp2
    repeat (go_quiet (fail); try go_wp2)
    go_ret
    exact ⟨by first | rfl | (simp; done) | (simp [*]; done), by repeat (first | exact Drawn0.refl _ | apply Drawn0.step)⟩

end Go.Proofs.YtfonajakaimnoaaDoor.Lib

namespace Go.Proofs.YtfonajakaimnoaaDoor.Lib
open Go.RowKit Go.Proofs.YtfonajakaimnoaaDoorW.PrintWords Go.Proofs.YtfonajakaimnoaaDoorW.PrintLast Go.Proofs.YtfonajakaimnoaaDoorW.PrintMore
attribute [local go_sem] max2_int min2_int max_two min_two max_three min_three max_four min_four   -- for this text's walks alone
set_option linter.unusedVariables false
set_option linter.unusedSimpArgs false

/-! ### caesuraref11_all: function 85 -/
def caesuraref11_all.l0 : Nat → List (List Int) → Int → Int → Option (Bool)
 | 0, _, _, _ => none
 | k + 1, x0, x1, x5 => if x5 < (x0.length : Int) then (if 0 ≤ x5 then ((caesuraref11_rises.f k (rd_L1 x0 x5) x1).bind fun t303 => (if t303 = true then (caesuraref11_all.l0 k x0 x1 (wrap64 (x5 + 1))) else (some false))) else (none)) else (some true)
def caesuraref11_all.f (k : Nat) (l0 : List (List Int)) (a1 : Int) : Option (Bool) := caesuraref11_all.l0 k l0 a1 0
theorem caesuraref11_all.mono_l : ∀ k, (∀ y0 y1 y2, LeO (caesuraref11_all.l0 k y0 y1 y2) (caesuraref11_all.l0 (k + 1) y0 y1 y2))
 | 0 => fun _ _ _ r h => by simp [caesuraref11_all.l0] at h
 | k + 1 => by
  have ih0 := caesuraref11_all.mono_l k
  ·intro y0 y1 y2
   unfold caesuraref11_all.l0
   repeat' first
   | (with_reducible exact ih0 _ _ _)
   | (with_reducible exact caesuraref11_rises.mono _ _ _)
   | (with_reducible exact LeO.refl _)
   | (with_reducible exact LeO.none _)
   | (with_reducible refine LeO.ite ?_ ?_)
   | (with_reducible refine LeO.bind ?_ (fun _ => ?_))
   | exact ih0 _ _ _
   | exact caesuraref11_rises.mono _ _ _
   | exact LeO.none _
   | refine LeO.ite ?_ ?_
   | refine LeO.bind ?_ (fun _ => ?_)
theorem caesuraref11_all.mono : ∀ a0 a1 k, LeO (caesuraref11_all.f k a0 a1) (caesuraref11_all.f (k + 1) a0 a1) := by
 intro a0 a1 k
 have ih0 := caesuraref11_all.mono_l k
 unfold caesuraref11_all.f
 repeat' first
   | (with_reducible exact ih0 _ _ _)
   | (with_reducible exact caesuraref11_rises.mono _ _ _)
   | (with_reducible exact LeO.refl _)
   | (with_reducible exact LeO.none _)
   | (with_reducible refine LeO.ite ?_ ?_)
   | (with_reducible refine LeO.bind ?_ (fun _ => ?_))
   | exact ih0 _ _ _
   | exact caesuraref11_rises.mono _ _ _
   | exact LeO.none _
   | refine LeO.ite ?_ ?_
   | refine LeO.bind ?_ (fun _ => ?_)
set_option maxHeartbeats 8000000 in
set_option maxRecDepth 100000 in
theorem caesuraref11_all.calls (k : Nat) (A0 : Option Addr) (c0 : Nat) (l0 : List (List Int)) (a1 : Int) (r : Bool) (w : World) (hr0 : Kd.C (Kd.slice 3 (Kd.int .i64)) w A0 l0.length l0) (hc0 : l0.length ≤ c0) (h : caesuraref11_all.f k l0 a1 = some r) :
  Calls Tryd.prog 85 #[.slice A0 l0.length c0, .int .i64 a1] w fun e w' => e = .returned (.bool r) ∧ Drawn0 w w' := by
 have HR0 := Aside0.mk hr0
 have HC0 := Aside0.mk hc0
 clear hr0 hc0
 have H : (caesuraref11_all.l0 k l0 a1 0) = some r := h
 clear h
 have H' := Aside0.mk H
 clear H
 go_enter Tryd.func85, Tryd.ntmps85
 go_wp2
 go_loopg [5] k (fun kq v5 w' => ∃ (x5_1 : Int), v5 = .int .i64 x5_1 ∧ Aside0 (caesuraref11_all.l0 kq l0 a1 x5_1 = some r) ∧ Aside0 (kq ≤ k) ∧ Drawn0 w w')
 case atStart => exact ⟨(0), (by first | rfl | (simp; done) | (simp [*]; done)), H', ⟨Nat.le_refl _⟩, by repeat (first | exact Drawn0.refl _ | apply Drawn0.step)⟩
 case round =>
  clear H'
  try clear p2
  obtain ⟨x5_1, rfl, HA, HK1, ⟨m1, rfl⟩⟩ := hrel
  cases gk with
  | zero => exact absurd HA.out (by simp [caesuraref11_all.l0])
  | succ k1 =>
   have H := HA.out
   clear HA
   simp only [caesuraref11_all.l0] at H
   by_cases c3 : x5_1 < (l0.length : Int)
   ·rw [if_pos c3] at H
    have c3b0 : decide (x5_1 < (l0.length : Int)) = true := decide_eq_true c3
    clear c3
    by_cases c4 : 0 ≤ x5_1
    ·rw [if_pos c4] at H
     have c4b0 : decide (0 ≤ x5_1) = true := decide_eq_true c4
     clear c4
     replace H := Option.bind_eq_some_iff.mp H
     obtain ⟨t303, A50, H⟩ := H
     replace H : (if t303 = true then (caesuraref11_all.l0 k1 l0 a1 (wrap64 (x5_1 + 1))) else (some false)) = some r := H
     have A5 := Aside0.mk A50
     clear A50
     by_cases c6 : t303 = true
     ·subst c6
      have H1 : (caesuraref11_all.l0 k1 l0 a1 (wrap64 (x5_1 + 1))) = some r := by rw [if_pos rfl] at H; exact H
      clear H
      have H := H1
      clear H1
      have H' := Aside0.mk H
      clear H
      have p302 : 0 ≤ (x5_1 : Int) := of_decide_eq_true (by first | (with_reducible assumption) | assumption)
      have q302 : x5_1 < (l0.length : Int) := of_decide_eq_true (by first | (with_reducible assumption) | assumption)
      obtain ⟨ad302, A302_0, c302_0, e302, hx302_0, hl302_0, hi302_0⟩ := at_L1 HR0.out x5_1 p302 q302
      cases e302
      have HR302_0 := Aside0.mk hi302_0
      have HC302_0 := Aside0.mk hl302_0
      clear hi302_0 hl302_0
      replace p302 := eq_true p302
      replace q302 := eq_true q302
      go_wp2_with (first | ((with_reducible refine gate_callee (f := 86) rfl ?_); refine goesL_ (some 18) rfl rfl Tryd.func86 (by kernel_rfl) rfl #[.slice A302_0 (rd_L1 l0 x5_1).length c302_0, .int .i64 a1] rfl (by (try simp only [List.map_toArray, List.map_cons, List.map_nil]); first | done | rfl | (simp only [List.length_drop, List.length_take]; rfl)) ?_; (with_reducible refine (caesuraref11_rises.calls k1 _ _ (rd_L1 l0 x5_1) a1 true _ ?side1 ?side2 A5.out).mono ?_); (case side1 => repeat (first | exact HR302_0.out | (with_reducible refine Kd.C_alloc ?_ _) | (with_reducible refine Kd.C_drewN ?_ _) | (with_reducible refine Kd.C_drew ?_))); (case side2 => exact HC302_0.out); rintro e w' ⟨rfl, ⟨nd, rfl⟩⟩; refine ⟨_, rfl, ?_⟩))
      go_roundg k1
      case measure => have := HK1.out; omega
      case rel => exact ⟨(wrap64 (x5_1 + 1)), (by first | rfl | (simp; done) | (simp [*]; done)), H', ⟨by have := HK1.out; omega⟩, by repeat (first | exact Drawn0.refl _ | apply Drawn0.step)⟩
     ·replace c6 := Bool.eq_false_iff.mpr c6
      subst c6
      have H1 : (some false) = some r := by rw [if_neg (show ¬ (false = true) by decide)] at H; exact H
      clear H
      have H := H1
      clear H1
      obtain rfl := Option.some.inj H
      have p302 : 0 ≤ (x5_1 : Int) := of_decide_eq_true (by first | (with_reducible assumption) | assumption)
      have q302 : x5_1 < (l0.length : Int) := of_decide_eq_true (by first | (with_reducible assumption) | assumption)
      obtain ⟨ad302, A302_0, c302_0, e302, hx302_0, hl302_0, hi302_0⟩ := at_L1 HR0.out x5_1 p302 q302
      cases e302
      have HR302_0 := Aside0.mk hi302_0
      have HC302_0 := Aside0.mk hl302_0
      clear hi302_0 hl302_0
      replace p302 := eq_true p302
      replace q302 := eq_true q302
      go_wp2_with (first | ((with_reducible refine gate_callee (f := 86) rfl ?_); refine goesL_ (some 18) rfl rfl Tryd.func86 (by kernel_rfl) rfl #[.slice A302_0 (rd_L1 l0 x5_1).length c302_0, .int .i64 a1] rfl (by (try simp only [List.map_toArray, List.map_cons, List.map_nil]); first | done | rfl | (simp only [List.length_drop, List.length_take]; rfl)) ?_; (with_reducible refine (caesuraref11_rises.calls k1 _ _ (rd_L1 l0 x5_1) a1 false _ ?side1 ?side2 A5.out).mono ?_); (case side1 => repeat (first | exact HR302_0.out | (with_reducible refine Kd.C_alloc ?_ _) | (with_reducible refine Kd.C_drewN ?_ _) | (with_reducible refine Kd.C_drew ?_))); (case side2 => exact HC302_0.out); rintro e w' ⟨rfl, ⟨nd, rfl⟩⟩; refine ⟨_, rfl, ?_⟩))
      go_ret
      exact ⟨by first | rfl | (simp; done) | (simp [*]; done), by repeat (first | exact Drawn0.refl _ | apply Drawn0.step)⟩
    ·rw [if_neg c4] at H
     exact absurd H (by simp)
   ·rw [if_neg c3] at H
    have c3b0 : decide (x5_1 < (l0.length : Int)) = false := decide_eq_false c3
    clear c3
    obtain rfl := Option.some.inj H
    go_wp2
    go_ret
    exact ⟨by first | rfl | (simp; done) | (simp [*]; done), by repeat (first | exact Drawn0.refl _ | apply Drawn0.step)⟩

end Go.Proofs.YtfonajakaimnoaaDoor.Lib

namespace Go.Proofs.YtfonajakaimnoaaDoor.Lib
open Go.RowKit Go.Proofs.YtfonajakaimnoaaDoorW.PrintWords Go.Proofs.YtfonajakaimnoaaDoorW.PrintLast Go.Proofs.YtfonajakaimnoaaDoorW.PrintMore
attribute [local go_sem] max2_int min2_int max_two min_two max_three min_three max_four min_four   -- for this text's walks alone
set_option linter.unusedVariables false
set_option linter.unusedSimpArgs false

/-! ### caesuraref11_inside: function 114 -/
def caesuraref11_inside.l0 : Nat → List Int → Int → Int → Option (Bool)
 | 0, _, _, _ => none
 | k + 1, x0, x1, x5 => if x5 < (x0.length : Int) then (if 0 ≤ x5 then (if (rd x0 x5) < 0 then (some false) else (if (rd x0 x5) ≥ x1 then (some false) else (caesuraref11_inside.l0 k x0 x1 (wrap64 (x5 + 1))))) else (none)) else (some true)
def caesuraref11_inside.f (k : Nat) (l0 : List Int) (a1 : Int) : Option (Bool) := caesuraref11_inside.l0 k l0 a1 0
theorem caesuraref11_inside.mono_l : ∀ k, (∀ y0 y1 y2, LeO (caesuraref11_inside.l0 k y0 y1 y2) (caesuraref11_inside.l0 (k + 1) y0 y1 y2))
 | 0 => fun _ _ _ r h => by simp [caesuraref11_inside.l0] at h
 | k + 1 => by
  have ih0 := caesuraref11_inside.mono_l k
  ·intro y0 y1 y2
   unfold caesuraref11_inside.l0
   repeat' first
   | (with_reducible exact ih0 _ _ _)
   | (with_reducible exact LeO.refl _)
   | (with_reducible exact LeO.none _)
   | (with_reducible refine LeO.ite ?_ ?_)
   | (with_reducible refine LeO.bind ?_ (fun _ => ?_))
   | exact ih0 _ _ _
   | exact LeO.none _
   | refine LeO.ite ?_ ?_
   | refine LeO.bind ?_ (fun _ => ?_)
theorem caesuraref11_inside.mono : ∀ a0 a1 k, LeO (caesuraref11_inside.f k a0 a1) (caesuraref11_inside.f (k + 1) a0 a1) := by
 intro a0 a1 k
 have ih0 := caesuraref11_inside.mono_l k
 unfold caesuraref11_inside.f
 repeat' first
   | (with_reducible exact ih0 _ _ _)
   | (with_reducible exact LeO.refl _)
   | (with_reducible exact LeO.none _)
   | (with_reducible refine LeO.ite ?_ ?_)
   | (with_reducible refine LeO.bind ?_ (fun _ => ?_))
   | exact ih0 _ _ _
   | exact LeO.none _
   | refine LeO.ite ?_ ?_
   | refine LeO.bind ?_ (fun _ => ?_)
set_option maxHeartbeats 8000000 in
set_option maxRecDepth 100000 in
theorem caesuraref11_inside.calls (k : Nat) (A0 : Option Addr) (c0 : Nat) (l0 : List Int) (a1 : Int) (r : Bool) (w : World) (hr0 : Kd.C (Kd.int .i64) w A0 l0.length l0) (hc0 : l0.length ≤ c0) (h : caesuraref11_inside.f k l0 a1 = some r) :
  Calls Tryd.prog 114 #[.slice A0 l0.length c0, .int .i64 a1] w fun e w' => e = .returned (.bool r) ∧ Drawn0 w w' := by
 have HR0 := Aside0.mk hr0
 have HC0 := Aside0.mk hc0
 clear hr0 hc0
 have H : (caesuraref11_inside.l0 k l0 a1 0) = some r := h
 clear h
 have H' := Aside0.mk H
 clear H
 go_enter Tryd.func114, Tryd.ntmps114
 go_wp2
 go_loopg [5] k (fun kq v5 w' => ∃ (x5_1 : Int), v5 = .int .i64 x5_1 ∧ Aside0 (caesuraref11_inside.l0 kq l0 a1 x5_1 = some r) ∧ Aside0 (kq ≤ k) ∧ Drawn0 w w')
 case atStart => exact ⟨(0), (by first | rfl | (simp; done) | (simp [*]; done)), H', ⟨Nat.le_refl _⟩, by repeat (first | exact Drawn0.refl _ | apply Drawn0.step)⟩
 case round =>
  clear H'
  try clear c1
  try clear p2
  obtain ⟨x5_1, rfl, HA, HK1, ⟨m1, rfl⟩⟩ := hrel
  cases gk with
  | zero => exact absurd HA.out (by simp [caesuraref11_inside.l0])
  | succ k1 =>
   have H := HA.out
   clear HA
   simp only [caesuraref11_inside.l0] at H
   by_cases c3 : x5_1 < (l0.length : Int)
   ·rw [if_pos c3] at H
    have c3b0 : decide (x5_1 < (l0.length : Int)) = true := decide_eq_true c3
    clear c3
    by_cases c4 : 0 ≤ x5_1
    ·rw [if_pos c4] at H
     have c4b0 : decide (0 ≤ x5_1) = true := decide_eq_true c4
     clear c4
     by_cases c5 : (rd l0 x5_1) < 0
     ·rw [if_pos c5] at H
      have c5b0 : decide ((rd l0 x5_1) < 0) = true := decide_eq_true c5
      clear c5
      obtain rfl := Option.some.inj H
      have p291 : 0 ≤ (x5_1 : Int) := of_decide_eq_true (by first | (with_reducible assumption) | assumption)
      have q291 : x5_1 < (l0.length : Int) := of_decide_eq_true (by first | (with_reducible assumption) | assumption)
      obtain ⟨ad291, e291, hx291_0⟩ := Kd.at_int HR0.out x5_1 p291 q291
      cases e291
      replace p291 := eq_true p291
      replace q291 := eq_true q291
      go_wp2
      go_ret
      exact ⟨by first | rfl | (simp; done) | (simp [*]; done), by repeat (first | exact Drawn0.refl _ | apply Drawn0.step)⟩
     ·rw [if_neg c5] at H
      have c5b0 : decide ((rd l0 x5_1) < 0) = false := decide_eq_false c5
      clear c5
      by_cases c6 : (rd l0 x5_1) ≥ a1
      ·rw [if_pos c6] at H
       have c6b0 : decide (a1 ≤ (rd l0 x5_1)) = true := decide_eq_true c6
       clear c6
       obtain rfl := Option.some.inj H
       have p291 : 0 ≤ (x5_1 : Int) := of_decide_eq_true (by first | (with_reducible assumption) | assumption)
       have q291 : x5_1 < (l0.length : Int) := of_decide_eq_true (by first | (with_reducible assumption) | assumption)
       obtain ⟨ad291, e291, hx291_0⟩ := Kd.at_int HR0.out x5_1 p291 q291
       cases e291
       replace p291 := eq_true p291
       replace q291 := eq_true q291
       have p292 : 0 ≤ (x5_1 : Int) := of_decide_eq_true (by first | (with_reducible assumption) | assumption)
       have q292 : x5_1 < (l0.length : Int) := of_decide_eq_true (by first | (with_reducible assumption) | assumption)
       obtain ⟨ad292, e292, hx292_0⟩ := Kd.at_int HR0.out x5_1 p292 q292
       obtain rfl : ad291 = ad292 := (by injection e292)
       replace p292 := eq_true p292
       replace q292 := eq_true q292
       go_wp2
       go_ret
       exact ⟨by first | rfl | (simp; done) | (simp [*]; done), by repeat (first | exact Drawn0.refl _ | apply Drawn0.step)⟩
      ·rw [if_neg c6] at H
       have c6b0 : decide (a1 ≤ (rd l0 x5_1)) = false := decide_eq_false c6
       clear c6
       have H' := Aside0.mk H
       clear H
       have p291 : 0 ≤ (x5_1 : Int) := of_decide_eq_true (by first | (with_reducible assumption) | assumption)
       have q291 : x5_1 < (l0.length : Int) := of_decide_eq_true (by first | (with_reducible assumption) | assumption)
       obtain ⟨ad291, e291, hx291_0⟩ := Kd.at_int HR0.out x5_1 p291 q291
       cases e291
       replace p291 := eq_true p291
       replace q291 := eq_true q291
       have p292 : 0 ≤ (x5_1 : Int) := of_decide_eq_true (by first | (with_reducible assumption) | assumption)
       have q292 : x5_1 < (l0.length : Int) := of_decide_eq_true (by first | (with_reducible assumption) | assumption)
       obtain ⟨ad292, e292, hx292_0⟩ := Kd.at_int HR0.out x5_1 p292 q292
       obtain rfl : ad291 = ad292 := (by injection e292)
       replace p292 := eq_true p292
       replace q292 := eq_true q292
       go_wp2
       go_roundg k1
       case measure => have := HK1.out; omega
       case rel => exact ⟨(wrap64 (x5_1 + 1)), (by first | rfl | (simp; done) | (simp [*]; done)), H', ⟨by have := HK1.out; omega⟩, by repeat (first | exact Drawn0.refl _ | apply Drawn0.step)⟩
    ·rw [if_neg c4] at H
     exact absurd H (by simp)
   ·rw [if_neg c3] at H
    have c3b0 : decide (x5_1 < (l0.length : Int)) = false := decide_eq_false c3
    clear c3
    obtain rfl := Option.some.inj H
    go_wp2
    go_ret
    exact ⟨by first | rfl | (simp; done) | (simp [*]; done), by repeat (first | exact Drawn0.refl _ | apply Drawn0.step)⟩

end Go.Proofs.YtfonajakaimnoaaDoor.Lib

/- The document's lists: rises, all, inside: what they come to. -/
namespace Go.Proofs.YtfonajakaimnoaaDoor.C11
open Go.RowKit Go.Proofs.YtfonajakaimnoaaDoorW.PrintWords Go.Proofs.YtfonajakaimnoaaDoorW.PrintLast Go.Proofs.YtfonajakaimnoaaDoorW.PrintMore Go.Proofs.YtfonajakaimnoaaDoor.Lib Lent Go.Proofs.YtfonajakaimnoaaDoor.Fn
set_option linter.unusedVariables false
set_option linter.unusedSimpArgs false

theorem rd_at (l : List Int) (i : Nat) (h : i < l.length) : rd l (i : Int) = l[i] := by
 unfold rd
 rw [show ((i : Int)).toNat = i from rfl, List.getD_eq_getElem?_getD, List.getElem?_eq_getElem h]
 rfl
theorem doc_rises_loop (l : List Int) (n : Int) (hl : l.length ≤ 9223372036854775807) : ∀ (d i k : Nat) (last : Int), i ≤ l.length → l.length - i = d → d < k → (i = 0 → last = -1) → (0 < i → last = l.getD (i - 1) 0 ∧ 0 ≤ last) →
  caesuraref11_rises.l0 k l n i = some (risesB n last (l.drop i)) := by
 intro d
 induction d with
 | zero =>
  intro i k last hi hd hk h0 h1
  obtain ⟨k, rfl⟩ : ∃ m, k = m + 1 := ⟨k - 1, by omega⟩
  simp only [caesuraref11_rises.l0]
  rw [if_neg (by omega), List.drop_of_length_le (by omega)]
  rfl
 | succ d ih =>
  intro i k last hi hd hk h0 h1
  obtain ⟨k, rfl⟩ : ∃ m, k = m + 1 := ⟨k - 1, by omega⟩
  have hil : i < l.length := by omega
  have hw : wrap64 ((i : Int) + 1) = ((i + 1 : Nat) : Int) := by rw [wrap_succ (n := l.length) (by omega) (by omega) (by omega)]; omega
  have hlast : -1 ≤ last := by
   rcases Nat.eq_zero_or_pos i with e | e
   ·rw [h0 e]; omega
   ·have := (h1 e).2; omega
  simp only [caesuraref11_rises.l0]
  rw [if_pos (by omega), if_pos (by omega), rd_at l i hil, List.drop_eq_getElem_cons hil]
  simp only [risesB]
  by_cases hneg : l[i] < 0
  ·rw [if_pos hneg]
   simp [show l[i] ≤ last by omega]
  ·rw [if_neg hneg]
   by_cases hbig : l[i] ≥ n
   ·rw [if_pos hbig]
    simp [hbig]
   ·rw [if_neg hbig]
    have hnext := ih (i + 1) k l[i] (by omega) (by omega) (by omega) (by omega) (fun _ => ⟨by rw [Nat.add_sub_cancel, List.getD_eq_getElem?_getD, List.getElem?_eq_getElem hil]; rfl, by omega⟩)
    rcases Nat.eq_zero_or_pos i with e | e
    ·subst e
     rw [if_neg (by omega), hw, hnext]
     have := h0 rfl
     simp [show ¬ l[0] ≤ last by omega, hbig]
    ·have hw2 : wrap64 ((i : Int) - 1) = ((i - 1 : Nat) : Int) := by unfold wrap64; omega
     rw [if_pos (by omega), hw2, if_pos (by omega), if_pos (by omega), show rd l ((i - 1 : Nat) : Int) = last from (h1 e).1.symm]
     by_cases hle : l[i] ≤ last
     ·rw [if_pos hle]
      simp [hle]
     ·rw [if_neg hle, hw, hnext]
      simp [hle, hbig]
theorem doc_rises_ev (l : List Int) (n : Int) (hl : l.length ≤ 9223372036854775807) : Ev (fun k => caesuraref11_rises.f k l n) (risesB n (-1) l) :=
 ⟨l.length + 1, fun k hk => by
  show caesuraref11_rises.f k l n = _
  unfold caesuraref11_rises.f
  exact doc_rises_loop l n hl l.length 0 k (-1) (by omega) (by omega) (by omega) (fun _ => rfl) (fun h => by omega)⟩
theorem doc_inside_loop (l : List Int) (n : Int) (hl : l.length ≤ 9223372036854775807) : ∀ (d i k : Nat), i ≤ l.length → l.length - i = d → d < k → caesuraref11_inside.l0 k l n i = some (!((l.drop i).any fun x => decide (x < 0) || decide (x ≥ n))) := by
 intro d
 induction d with
 | zero =>
  intro i k hi hd hk
  obtain ⟨k, rfl⟩ : ∃ m, k = m + 1 := ⟨k - 1, by omega⟩
  simp only [caesuraref11_inside.l0]
  rw [if_neg (by omega), List.drop_of_length_le (by omega)]
  rfl
 | succ d ih =>
  intro i k hi hd hk
  obtain ⟨k, rfl⟩ : ∃ m, k = m + 1 := ⟨k - 1, by omega⟩
  have hil : i < l.length := by omega
  have hw : wrap64 ((i : Int) + 1) = ((i + 1 : Nat) : Int) := by rw [wrap_succ (n := l.length) (by omega) (by omega) (by omega)]; omega
  simp only [caesuraref11_inside.l0]
  rw [if_pos (by omega), if_pos (by omega), rd_at l i hil, List.drop_eq_getElem_cons hil]
  by_cases h1 : l[i] < 0
  ·rw [if_pos h1, List.any_cons, decide_eq_true h1, Bool.true_or, Bool.true_or, Bool.not_true]
  ·rw [if_neg h1]
   by_cases h2 : l[i] ≥ n
   ·rw [if_pos h2, List.any_cons, decide_eq_true h2, Bool.or_true, Bool.true_or, Bool.not_true]
   ·rw [if_neg h2, hw, ih (i + 1) k (by omega) (by omega) (by omega), List.any_cons, decide_eq_false h1, decide_eq_false h2, Bool.false_or, Bool.false_or]
theorem doc_all_loop (X : LL) (n : Int) (hX : X.length ≤ 9223372036854775807) (hr : ∀ x ∈ X, x.length ≤ 9223372036854775807) : ∀ (d i : Nat), i ≤ X.length → X.length - i = d → Ev (fun k => caesuraref11_all.l0 k X n i) ((X.drop i).all (risesB n (-1))) := by
 intro d
 induction d with
 | zero =>
  intro i hi hd
  refine Ev.step (f := fun _ => some true) (fun k => ?_) (by rw [List.drop_of_length_le (by omega)]; exact Ev.now _)
  simp only [caesuraref11_all.l0]
  rw [if_neg (by omega)]
 | succ d ih =>
  intro i hi hd
  have hil : i < X.length := by omega
  have hw : wrap64 ((i : Int) + 1) = ((i + 1 : Nat) : Int) := by rw [wrap_succ (n := X.length) (by omega) (by omega) (by omega)]; omega
  have hrow : rd_L1 X (i : Int) = X[i] := by
   unfold rd_L1
   rw [show ((i : Int)).toNat = i from rfl, List.getD_eq_getElem?_getD, List.getElem?_eq_getElem hil]
   rfl
  refine Ev.step (f := fun k => (caesuraref11_rises.f k X[i] n).bind fun t => if t = true then caesuraref11_all.l0 k X n ((i + 1 : Nat) : Int) else some false) (fun k => ?_) (Ev.bind (doc_rises_ev X[i] n (hr _ (List.getElem_mem hil))) ?_)
  ·conv => lhs; unfold caesuraref11_all.l0
   rw [if_pos (by omega), if_pos (by omega), hw, hrow]
  ·rw [List.drop_eq_getElem_cons hil, List.all_cons]
   cases hq : risesB n (-1) X[i] with
   | true => exact Ev.congr (fun k => if_pos rfl) (by rw [Bool.true_and]; exact ih (i + 1) (by omega) (by omega))
   | false => exact Ev.congr (fun k => if_neg (by decide)) (Ev.now _)
theorem doc_all_ev (X : LL) (n : Int) (hX : X.length ≤ 9223372036854775807) (hr : ∀ x ∈ X, x.length ≤ 9223372036854775807) : Ev (fun k => caesuraref11_all.f k X n) (X.all (risesB n (-1))) := by
 have := doc_all_loop X n hX hr X.length 0 (by omega) (by omega)
 exact this
end Go.Proofs.YtfonajakaimnoaaDoor.C11

namespace Go.Proofs.YtfonajakaimnoaaDoor.Lib
open Go.RowKit Go.Proofs.YtfonajakaimnoaaDoorW.PrintWords Go.Proofs.YtfonajakaimnoaaDoorW.PrintLast Go.Proofs.YtfonajakaimnoaaDoorW.PrintMore
attribute [local go_sem] max2_int min2_int max_two min_two max_three min_three max_four min_four   -- for this text's walks alone
set_option linter.unusedVariables false
set_option linter.unusedSimpArgs false

/-! ### caesuraref11_has: function 89 -/
def caesuraref11_has.l0 : Nat → List Int → Int → Int → Option (Bool)
 | 0, _, _, _ => none
 | k + 1, x0, x1, x5 => if x5 < (x0.length : Int) then (if 0 ≤ x5 then (if (rd x0 x5) = x1 then (some true) else (caesuraref11_has.l0 k x0 x1 (wrap64 (x5 + 1)))) else (none)) else (some false)
def caesuraref11_has.f (k : Nat) (l0 : List Int) (a1 : Int) : Option (Bool) := caesuraref11_has.l0 k l0 a1 0
theorem caesuraref11_has.mono_l : ∀ k, (∀ y0 y1 y2, LeO (caesuraref11_has.l0 k y0 y1 y2) (caesuraref11_has.l0 (k + 1) y0 y1 y2))
 | 0 => fun _ _ _ r h => by simp [caesuraref11_has.l0] at h
 | k + 1 => by
  have ih0 := caesuraref11_has.mono_l k
  ·intro y0 y1 y2
   unfold caesuraref11_has.l0
   repeat' first
   | (with_reducible exact ih0 _ _ _)
   | (with_reducible exact LeO.refl _)
   | (with_reducible exact LeO.none _)
   | (with_reducible refine LeO.ite ?_ ?_)
   | (with_reducible refine LeO.bind ?_ (fun _ => ?_))
   | exact ih0 _ _ _
   | exact LeO.none _
   | refine LeO.ite ?_ ?_
   | refine LeO.bind ?_ (fun _ => ?_)
theorem caesuraref11_has.mono : ∀ a0 a1 k, LeO (caesuraref11_has.f k a0 a1) (caesuraref11_has.f (k + 1) a0 a1) := by
 intro a0 a1 k
 have ih0 := caesuraref11_has.mono_l k
 unfold caesuraref11_has.f
 repeat' first
   | (with_reducible exact ih0 _ _ _)
   | (with_reducible exact LeO.refl _)
   | (with_reducible exact LeO.none _)
   | (with_reducible refine LeO.ite ?_ ?_)
   | (with_reducible refine LeO.bind ?_ (fun _ => ?_))
   | exact ih0 _ _ _
   | exact LeO.none _
   | refine LeO.ite ?_ ?_
   | refine LeO.bind ?_ (fun _ => ?_)
set_option maxHeartbeats 8000000 in
set_option maxRecDepth 100000 in
theorem caesuraref11_has.calls (k : Nat) (A0 : Option Addr) (c0 : Nat) (l0 : List Int) (a1 : Int) (r : Bool) (w : World) (hr0 : Kd.C (Kd.int .i64) w A0 l0.length l0) (hc0 : l0.length ≤ c0) (h : caesuraref11_has.f k l0 a1 = some r) :
  Calls Tryd.prog 89 #[.slice A0 l0.length c0, .int .i64 a1] w fun e w' => e = .returned (.bool r) ∧ Drawn0 w w' := by
 have HR0 := Aside0.mk hr0
 have HC0 := Aside0.mk hc0
 clear hr0 hc0
 have H : (caesuraref11_has.l0 k l0 a1 0) = some r := h
 clear h
 have H' := Aside0.mk H
 clear H
 go_enter Tryd.func89, Tryd.ntmps89
 go_wp2
 go_loopg [5] k (fun kq v5 w' => ∃ (x5_1 : Int), v5 = .int .i64 x5_1 ∧ Aside0 (caesuraref11_has.l0 kq l0 a1 x5_1 = some r) ∧ Aside0 (kq ≤ k) ∧ Drawn0 w w')
 case atStart => exact ⟨(0), (by first | rfl | (simp; done) | (simp [*]; done)), H', ⟨Nat.le_refl _⟩, by repeat (first | exact Drawn0.refl _ | apply Drawn0.step)⟩
 case round =>
  clear H'
  try clear p2
  obtain ⟨x5_1, rfl, HA, HK1, ⟨m1, rfl⟩⟩ := hrel
  cases gk with
  | zero => exact absurd HA.out (by simp [caesuraref11_has.l0])
  | succ k1 =>
   have H := HA.out
   clear HA
   simp only [caesuraref11_has.l0] at H
   by_cases c3 : x5_1 < (l0.length : Int)
   ·rw [if_pos c3] at H
    have c3b0 : decide (x5_1 < (l0.length : Int)) = true := decide_eq_true c3
    clear c3
    by_cases c4 : 0 ≤ x5_1
    ·rw [if_pos c4] at H
     have c4b0 : decide (0 ≤ x5_1) = true := decide_eq_true c4
     clear c4
     by_cases c5 : (rd l0 x5_1) = a1
     ·rw [if_pos c5] at H
      have c5b0 : ((rd l0 x5_1) == a1) = true := beq_iff_eq.mpr c5
      have c5b1 : ((rd l0 x5_1) != a1) = false := bne_eq_false_iff_eq.mpr c5
      clear c5
      obtain rfl := Option.some.inj H
      have p361 : 0 ≤ (x5_1 : Int) := of_decide_eq_true (by first | (with_reducible assumption) | assumption)
      have q361 : x5_1 < (l0.length : Int) := of_decide_eq_true (by first | (with_reducible assumption) | assumption)
      obtain ⟨ad361, e361, hx361_0⟩ := Kd.at_int HR0.out x5_1 p361 q361
      cases e361
      replace p361 := eq_true p361
      replace q361 := eq_true q361
      go_wp2
      go_ret
      exact ⟨by first | rfl | (simp; done) | (simp [*]; done), by repeat (first | exact Drawn0.refl _ | apply Drawn0.step)⟩
     ·rw [if_neg c5] at H
      have c5b0 : ((rd l0 x5_1) == a1) = false := beq_eq_false_iff_ne.mpr c5
      have c5b1 : ((rd l0 x5_1) != a1) = true := bne_iff_ne.mpr c5
      have H' := Aside0.mk H
      clear H
      have p361 : 0 ≤ (x5_1 : Int) := of_decide_eq_true (by first | (with_reducible assumption) | assumption)
      have q361 : x5_1 < (l0.length : Int) := of_decide_eq_true (by first | (with_reducible assumption) | assumption)
      obtain ⟨ad361, e361, hx361_0⟩ := Kd.at_int HR0.out x5_1 p361 q361
      cases e361
      replace p361 := eq_true p361
      replace q361 := eq_true q361
      go_wp2
      go_roundg k1
      case measure => have := HK1.out; omega
      case rel => exact ⟨(wrap64 (x5_1 + 1)), (by first | rfl | (simp; done) | (simp [*]; done)), H', ⟨by have := HK1.out; omega⟩, by repeat (first | exact Drawn0.refl _ | apply Drawn0.step)⟩
    ·rw [if_neg c4] at H
     exact absurd H (by simp)
   ·rw [if_neg c3] at H
    have c3b0 : decide (x5_1 < (l0.length : Int)) = false := decide_eq_false c3
    clear c3
    obtain rfl := Option.some.inj H
    go_wp2
    go_ret
    exact ⟨by first | rfl | (simp; done) | (simp [*]; done), by repeat (first | exact Drawn0.refl _ | apply Drawn0.step)⟩

end Go.Proofs.YtfonajakaimnoaaDoor.Lib

namespace Go.Proofs.YtfonajakaimnoaaDoor.Lib
open Go.RowKit Go.Proofs.YtfonajakaimnoaaDoorW.PrintWords Go.Proofs.YtfonajakaimnoaaDoorW.PrintLast Go.Proofs.YtfonajakaimnoaaDoorW.PrintMore
attribute [local go_sem] max2_int min2_int max_two min_two max_three min_three max_four min_four   -- for this text's walks alone
set_option linter.unusedVariables false
set_option linter.unusedSimpArgs false

/-! ### caesuraref11_sound: function 84 -/
mutual
def caesuraref11_sound.j0 : Nat → Int → Bool → List (List Int) → List Int → List Int → List (List Int) → Bool → Option (Bool)
 | 0, _, _, _, _, _, _, _ => none
 | k + 1, x3, x4, x294000, x294001, x294002, x294003, x294004 => caesuraref11_sound.l0 k x3 x4 0 x294000 x294001 x294002 x294003 x294004
def caesuraref11_sound.l0 : Nat → Int → Bool → Int → List (List Int) → List Int → List Int → List (List Int) → Bool → Option (Bool)
 | 0, _, _, _, _, _, _, _, _ => none
 | k + 1, x3, x4, x7, x294000, x294001, x294002, x294003, x294004 => if x7 < (x294003.length : Int) then (if 0 ≤ x7 then ((caesuraref11_inside.f k (rd_L1 x294003 x7) x3).bind fun t297 => (if x4 = true then (caesuraref11_sound.l0 k x3 t297 (wrap64 (x7 + 1)) x294000 x294001 x294002 x294003 x294004) else (caesuraref11_sound.l0 k x3 false (wrap64 (x7 + 1)) x294000 x294001 x294002 x294003 x294004))) else (none)) else (some x4)
end
def caesuraref11_sound.f (k : Nat) (l0_0 : List (List Int)) (l0_1 : List Int) (l0_2 : List Int) (l0_3 : List (List Int)) (a0_4 : Bool) : Option (Bool) := (caesuraref11_inside.f k l0_1 (l0_0.length : Int)).bind fun t294 => ((caesuraref11_inside.f k l0_2 (l0_0.length : Int)).bind fun t295 => (if (l0_3.length : Int) = (l0_0.length : Int) then (if t294 = true then (caesuraref11_sound.j0 k (l0_0.length : Int) t295 l0_0 l0_1 l0_2 l0_3 a0_4) else (caesuraref11_sound.j0 k (l0_0.length : Int) false l0_0 l0_1 l0_2 l0_3 a0_4)) else (caesuraref11_sound.j0 k (l0_0.length : Int) false l0_0 l0_1 l0_2 l0_3 a0_4)))
theorem caesuraref11_sound.mono_l : ∀ k, (∀ y0 y1 y2 y3 y4 y5 y6, LeO (caesuraref11_sound.j0 k y0 y1 y2 y3 y4 y5 y6) (caesuraref11_sound.j0 (k + 1) y0 y1 y2 y3 y4 y5 y6)) ∧ (∀ y0 y1 y2 y3 y4 y5 y6 y7, LeO (caesuraref11_sound.l0 k y0 y1 y2 y3 y4 y5 y6 y7) (caesuraref11_sound.l0 (k + 1) y0 y1 y2 y3 y4 y5 y6 y7))
 | 0 => ⟨fun _ _ _ _ _ _ _ r h => by simp [caesuraref11_sound.j0] at h, fun _ _ _ _ _ _ _ _ r h => by simp [caesuraref11_sound.l0] at h⟩
 | k + 1 => by
  obtain ⟨ih0, ih1⟩ := caesuraref11_sound.mono_l k
  refine ⟨?_, ?_⟩
  ·intro y0 y1 y2 y3 y4 y5 y6
   unfold caesuraref11_sound.j0
   repeat' first
   | (with_reducible exact ih0 _ _ _ _ _ _ _)
   | (with_reducible exact ih1 _ _ _ _ _ _ _ _)
   | (with_reducible exact caesuraref11_inside.mono _ _ _)
   | (with_reducible exact LeO.refl _)
   | (with_reducible exact LeO.none _)
   | (with_reducible refine LeO.ite ?_ ?_)
   | (with_reducible refine LeO.bind ?_ (fun _ => ?_))
   | exact ih0 _ _ _ _ _ _ _
   | exact ih1 _ _ _ _ _ _ _ _
   | exact caesuraref11_inside.mono _ _ _
   | exact LeO.none _
   | refine LeO.ite ?_ ?_
   | refine LeO.bind ?_ (fun _ => ?_)
  ·intro y0 y1 y2 y3 y4 y5 y6 y7
   unfold caesuraref11_sound.l0
   repeat' first
   | (with_reducible exact ih0 _ _ _ _ _ _ _)
   | (with_reducible exact ih1 _ _ _ _ _ _ _ _)
   | (with_reducible exact caesuraref11_inside.mono _ _ _)
   | (with_reducible exact LeO.refl _)
   | (with_reducible exact LeO.none _)
   | (with_reducible refine LeO.ite ?_ ?_)
   | (with_reducible refine LeO.bind ?_ (fun _ => ?_))
   | exact ih0 _ _ _ _ _ _ _
   | exact ih1 _ _ _ _ _ _ _ _
   | exact caesuraref11_inside.mono _ _ _
   | exact LeO.none _
   | refine LeO.ite ?_ ?_
   | refine LeO.bind ?_ (fun _ => ?_)
theorem caesuraref11_sound.mono : ∀ a0 a1 a2 a3 a4 k, LeO (caesuraref11_sound.f k a0 a1 a2 a3 a4) (caesuraref11_sound.f (k + 1) a0 a1 a2 a3 a4) := by
 intro a0 a1 a2 a3 a4 k
 obtain ⟨ih0, ih1⟩ := caesuraref11_sound.mono_l k
 unfold caesuraref11_sound.f
 repeat' first
   | (with_reducible exact ih0 _ _ _ _ _ _ _)
   | (with_reducible exact ih1 _ _ _ _ _ _ _ _)
   | (with_reducible exact caesuraref11_inside.mono _ _ _)
   | (with_reducible exact LeO.refl _)
   | (with_reducible exact LeO.none _)
   | (with_reducible refine LeO.ite ?_ ?_)
   | (with_reducible refine LeO.bind ?_ (fun _ => ?_))
   | exact ih0 _ _ _ _ _ _ _
   | exact ih1 _ _ _ _ _ _ _ _
   | exact caesuraref11_inside.mono _ _ _
   | exact LeO.none _
   | refine LeO.ite ?_ ?_
   | refine LeO.bind ?_ (fun _ => ?_)
set_option maxHeartbeats 8000000 in
set_option maxRecDepth 100000 in
theorem caesuraref11_sound.calls (k : Nat) (A0_0 : Option Addr) (c0_0 : Nat) (l0_0 : List (List Int)) (A0_1 : Option Addr) (c0_1 : Nat) (l0_1 : List Int) (A0_2 : Option Addr) (c0_2 : Nat) (l0_2 : List Int) (A0_3 : Option Addr) (c0_3 : Nat) (l0_3 : List (List Int)) (a0_4 : Bool) (r : Bool) (w : World) (hr0_0 : Kd.C (Kd.slice 3 (Kd.int .i64)) w A0_0 l0_0.length l0_0) (hc0_0 : l0_0.length ≤ c0_0) (hr0_1 : Kd.C (Kd.int .i64) w A0_1 l0_1.length l0_1) (hc0_1 : l0_1.length ≤ c0_1) (hr0_2 : Kd.C (Kd.int .i64) w A0_2 l0_2.length l0_2) (hc0_2 : l0_2.length ≤ c0_2) (hr0_3 : Kd.C (Kd.slice 3 (Kd.int .i64)) w A0_3 l0_3.length l0_3) (hc0_3 : l0_3.length ≤ c0_3) (h : caesuraref11_sound.f k l0_0 l0_1 l0_2 l0_3 a0_4 = some r) :
  Calls Tryd.prog 84 #[.agg #[.slice A0_0 l0_0.length c0_0, .slice A0_1 l0_1.length c0_1, .slice A0_2 l0_2.length c0_2, .slice A0_3 l0_3.length c0_3, .bool a0_4]] w fun e w' => e = .returned (.bool r) ∧ Below w.heap.size w w' := by
 have hu42 := Tryd.underlying42
 have HR0_0 := Aside0.mk hr0_0
 have HC0_0 := Aside0.mk hc0_0
 clear hr0_0 hc0_0
 have HR0_1 := Aside0.mk hr0_1
 have HC0_1 := Aside0.mk hc0_1
 clear hr0_1 hc0_1
 have HR0_2 := Aside0.mk hr0_2
 have HC0_2 := Aside0.mk hc0_2
 clear hr0_2 hc0_2
 have HR0_3 := Aside0.mk hr0_3
 have HC0_3 := Aside0.mk hc0_3
 clear hr0_3 hc0_3
 have HB := Aside0.mk (Below.refl w.heap.size w)
 have H : ((caesuraref11_inside.f k l0_1 (l0_0.length : Int)).bind fun t294 => ((caesuraref11_inside.f k l0_2 (l0_0.length : Int)).bind fun t295 => (if (l0_3.length : Int) = (l0_0.length : Int) then (if t294 = true then (caesuraref11_sound.j0 k (l0_0.length : Int) t295 l0_0 l0_1 l0_2 l0_3 a0_4) else (caesuraref11_sound.j0 k (l0_0.length : Int) false l0_0 l0_1 l0_2 l0_3 a0_4)) else (caesuraref11_sound.j0 k (l0_0.length : Int) false l0_0 l0_1 l0_2 l0_3 a0_4)))) = some r := h
 clear h
 replace H := Option.bind_eq_some_iff.mp H
 obtain ⟨t294, A20, H⟩ := H
 replace H : ((caesuraref11_inside.f k l0_2 (l0_0.length : Int)).bind fun t295 => (if (l0_3.length : Int) = (l0_0.length : Int) then (if t294 = true then (caesuraref11_sound.j0 k (l0_0.length : Int) t295 l0_0 l0_1 l0_2 l0_3 a0_4) else (caesuraref11_sound.j0 k (l0_0.length : Int) false l0_0 l0_1 l0_2 l0_3 a0_4)) else (caesuraref11_sound.j0 k (l0_0.length : Int) false l0_0 l0_1 l0_2 l0_3 a0_4))) = some r := H
 have A2 := Aside0.mk A20
 clear A20
 replace H := Option.bind_eq_some_iff.mp H
 obtain ⟨t295, A30, H⟩ := H
 replace H : (if (l0_3.length : Int) = (l0_0.length : Int) then (if t294 = true then (caesuraref11_sound.j0 k (l0_0.length : Int) t295 l0_0 l0_1 l0_2 l0_3 a0_4) else (caesuraref11_sound.j0 k (l0_0.length : Int) false l0_0 l0_1 l0_2 l0_3 a0_4)) else (caesuraref11_sound.j0 k (l0_0.length : Int) false l0_0 l0_1 l0_2 l0_3 a0_4)) = some r := H
 have A3 := Aside0.mk A30
 clear A30
 have HC4 := Aside0.mk H
 clear H
 go_enter Tryd.func84, Tryd.ntmps84
 go_upto_region 5 with (first | ((with_reducible refine gate_dst (N := 1) rfl ?_); refine box_event ?hg (N := 1) ?hd (cs := #[.slice A0_0 l0_0.length c0_0, .slice A0_1 l0_1.length c0_1, .slice A0_2 l0_2.length c0_2, .slice A0_3 l0_3.length c0_3, .bool a0_4]) (t := 42) ?hr ?_; (case hd => rfl); (case hg => rfl); (case hr => first | (go_simp; done) | (go_simp; rfl)); intro gb293 hg w5 hbox hb; have n0_ := Aside0.mk (below_step (by repeat (first | (with_reducible first | exact HB.out | apply below_alloc | apply pw_below_drewN | apply below_drew1) | exact HB.out)) hb); have n1_ := Aside0.mk (hbox); have n2_ := Aside0.mk ((by rw [hg]; exact (below_size (by repeat (first | (with_reducible first | exact HB.out | apply below_alloc | apply pw_below_drewN | apply below_drew1) | exact HB.out))) : w.heap.size ≤ gb293)); have n3_ := Aside0.mk ((by rw [hg]; exact (below_size (by repeat (first | (with_reducible first | exact HB.out | apply below_alloc | apply pw_below_drewN | apply below_drew1) | exact HB.out))) : w.heap.size ≤ gb293)); clear HB; have HB := n0_; have BK293 := n1_; have GW293 := n2_; have GE293 := n3_; clear n0_ n1_ n2_ n3_; clear hb hbox hg; have hcz6_0 : w5.cell? ⟨gb293, 0, none⟩ = some (.slice A0_0 l0_0.length c0_0) := (blk_cell BK293.out 0).trans rfl; have hcz6_1 : w5.cell? ⟨gb293, 1, none⟩ = some (.slice A0_1 l0_1.length c0_1) := (blk_cell BK293.out 1).trans rfl; have hcz6_2 : w5.cell? ⟨gb293, 2, none⟩ = some (.slice A0_2 l0_2.length c0_2) := (blk_cell BK293.out 2).trans rfl; have hcz6_3 : w5.cell? ⟨gb293, 3, none⟩ = some (.slice A0_3 l0_3.length c0_3) := (blk_cell BK293.out 3).trans rfl; have hcz6_4 : w5.cell? ⟨gb293, 4, none⟩ = some (.bool a0_4) := (blk_cell BK293.out 4).trans rfl; have hfz6_0 := blk_frozen BK293.out 0; have hfz6_1 := blk_frozen BK293.out 1; have hfz6_2 := blk_frozen BK293.out 2; have hfz6_3 := blk_frozen BK293.out 3; have hfz6_4 := blk_frozen BK293.out 4) | ((with_reducible refine gate_callee (f := 114) rfl ?_); refine goesL_ (some 20) rfl rfl Tryd.func114 (by kernel_rfl) rfl #[.slice A0_1 l0_1.length c0_1, .int .i64 (l0_0.length : Int)] rfl (by (try simp only [List.map_toArray, List.map_cons, List.map_nil]); first | done | rfl | (simp only [List.length_drop, List.length_take]; rfl)) ?_; (with_reducible refine (caesuraref11_inside.calls k _ _ l0_1 (l0_0.length : Int) t294 _ ?side1 ?side2 A2.out).mono ?_); (case side1 => repeat (first | exact (Kd.C_below HR0_1.out HB.out) | (with_reducible refine Kd.C_alloc ?_ _) | (with_reducible refine Kd.C_drewN ?_ _) | (with_reducible refine Kd.C_drew ?_))); (case side2 => exact HC0_1.out); rintro e w' ⟨rfl, ⟨nd, rfl⟩⟩; refine ⟨_, rfl, ?_⟩) | ((with_reducible refine gate_callee (f := 114) rfl ?_); refine goesL_ (some 24) rfl rfl Tryd.func114 (by kernel_rfl) rfl #[.slice A0_2 l0_2.length c0_2, .int .i64 (l0_0.length : Int)] rfl (by (try simp only [List.map_toArray, List.map_cons, List.map_nil]); first | done | rfl | (simp only [List.length_drop, List.length_take]; rfl)) ?_; (with_reducible refine (caesuraref11_inside.calls k _ _ l0_2 (l0_0.length : Int) t295 _ ?side1 ?side2 A3.out).mono ?_); (case side1 => repeat (first | exact (Kd.C_below HR0_2.out (by repeat (first | (with_reducible first | exact HB.out | apply below_alloc | apply pw_below_drewN | apply below_drew1 | refine below_set ?_ GE293.out) | exact HB.out))) | (with_reducible refine Kd.C_alloc ?_ _) | (with_reducible refine Kd.C_drewN ?_ _) | (with_reducible refine Kd.C_drew ?_))); (case side2 => exact HC0_2.out); rintro e w' ⟨rfl, ⟨nd, rfl⟩⟩; refine ⟨_, rfl, ?_⟩))
 (try simp only [Act.put, List.setIfInBounds_toArray, List.set_cons_zero, List.set_cons_succ])
 go_cut [4] (fun v4 wc => ∃ (kq : Nat) (x4_3 : Bool), v4 = .bool x4_3 ∧ Aside0 (caesuraref11_sound.j0 kq (l0_0.length : Int) x4_3 l0_0 l0_1 l0_2 l0_3 a0_4 = some r) ∧ Aside0 (kq ≤ k) ∧ Aside0 (wc.heap[gb293]? = some (.cells #[(.slice A0_0 l0_0.length c0_0), (.slice A0_1 l0_1.length c0_1), (.slice A0_2 l0_2.length c0_2), (.slice A0_3 l0_3.length c0_3), .bool a0_4] 42 (0, 0))) ∧ Aside0 (Below w.heap.size w wc))
 case first =>
  have H := HC4.out
  clear HC4
  by_cases c7 : (l0_3.length : Int) = (l0_0.length : Int)
  ·rw [if_pos c7] at H
   have c7b0 : ((l0_3.length : Int) == (l0_0.length : Int)) = true := beq_iff_eq.mpr c7
   have c7b1 : ((l0_3.length : Int) != (l0_0.length : Int)) = false := bne_eq_false_iff_eq.mpr c7
   have c7b2 : (l0_3.length == l0_0.length) = true := by first | simpa using c7 | (simp at c7 ⊢; omega)
   clear c7
   (first | rw [c7b0] | (simp only [i64_w, i32_w]; rw [c7b0]) | skip)
   by_cases c8 : t294 = true
   ·subst c8
    have H1 : (caesuraref11_sound.j0 k (l0_0.length : Int) t295 l0_0 l0_1 l0_2 l0_3 a0_4) = some r := by rw [if_pos rfl] at H; exact H
    clear H
    have H := H1
    clear H1
    have H' := Aside0.mk H
    clear H
    go_wp2
    go_meet
    case rel => exact ⟨_, (t295), (by first | rfl | (simp; done) | (simp [*]; done)), H', ⟨by first | omega | exact Nat.le_refl _⟩, ⟨by (with_reducible repeat (first | refine blk_drewN ?_ _ | refine blk_drew ?_ | refine blk_alloc ?_ _)); exact BK293.out⟩, ⟨by repeat (first | (with_reducible first | exact HB.out | apply below_alloc | apply pw_below_drewN | apply below_drew1 | refine below_set ?_ GE293.out) | exact HB.out)⟩⟩
   ·replace c8 := Bool.eq_false_iff.mpr c8
    subst c8
    have H1 : (caesuraref11_sound.j0 k (l0_0.length : Int) false l0_0 l0_1 l0_2 l0_3 a0_4) = some r := by rw [if_neg (show ¬ (false = true) by decide)] at H; exact H
    clear H
    have H := H1
    clear H1
    have H' := Aside0.mk H
    clear H
    go_wp2
    go_meet
    case rel => exact ⟨_, (false), (by first | rfl | (simp; done) | (simp [*]; done)), H', ⟨by first | omega | exact Nat.le_refl _⟩, ⟨by (with_reducible repeat (first | refine blk_drewN ?_ _ | refine blk_drew ?_ | refine blk_alloc ?_ _)); exact BK293.out⟩, ⟨by repeat (first | (with_reducible first | exact HB.out | apply below_alloc | apply pw_below_drewN | apply below_drew1 | refine below_set ?_ GE293.out) | exact HB.out)⟩⟩
  ·rw [if_neg c7] at H
   have c7b0 : ((l0_3.length : Int) == (l0_0.length : Int)) = false := beq_eq_false_iff_ne.mpr c7
   have c7b1 : ((l0_3.length : Int) != (l0_0.length : Int)) = true := bne_iff_ne.mpr c7
   have c7b2 : (l0_3.length == l0_0.length) = false := by first | simpa using c7 | (simp at c7 ⊢; omega)
   (first | rw [c7b0] | (simp only [i64_w, i32_w]; rw [c7b0]) | skip)
   have H' := Aside0.mk H
   clear H
   go_wp2
   go_meet
   case rel => exact ⟨_, (false), (by first | rfl | (simp; done) | (simp [*]; done)), H', ⟨by first | omega | exact Nat.le_refl _⟩, ⟨by (with_reducible repeat (first | refine blk_drewN ?_ _ | refine blk_drew ?_ | refine blk_alloc ?_ _)); exact BK293.out⟩, ⟨by repeat (first | (with_reducible first | exact HB.out | apply below_alloc | apply pw_below_drewN | apply below_drew1 | refine below_set ?_ GE293.out) | exact HB.out)⟩⟩
 case rest =>
  clear HC4
  try clear c1
  try clear p2
  try clear c7
  try clear c7b0
  try clear c7b1
  try clear c7b2
  try clear c8
  try clear hcz6_0
  try clear hcz6_1
  try clear hcz6_2
  try clear hcz6_3
  try clear hcz6_4
  try clear hfz6_0
  try clear hfz6_1
  try clear hfz6_2
  try clear hfz6_3
  try clear hfz6_4
  obtain ⟨kq, x4_3, rfl, HA, HJ3, BK293, HB⟩ := hcut
  cases kq with
  | zero => exact absurd HA.out (by simp [caesuraref11_sound.j0])
  | succ kj3 =>
   have H := HA.out
   clear HA
   simp only [caesuraref11_sound.j0] at H
   have H' := Aside0.mk H
   clear H
   go_wp2
   go_loopg [4, 7] kj3 (fun kq v4 v7 w' => ∃ (x4_2 : Bool) (x7_2 : Int), v4 = .bool x4_2 ∧ v7 = .int .i64 x7_2 ∧ Aside0 (caesuraref11_sound.l0 kq (l0_0.length : Int) x4_2 x7_2 l0_0 l0_1 l0_2 l0_3 a0_4 = some r) ∧ Aside0 (kq ≤ kj3) ∧ Aside0 (w'.heap[gb293]? = some (.cells #[(.slice A0_0 l0_0.length c0_0), (.slice A0_1 l0_1.length c0_1), (.slice A0_2 l0_2.length c0_2), (.slice A0_3 l0_3.length c0_3), .bool a0_4] 42 (0, 0))) ∧ Aside0 (Below w.heap.size w w'))
   case atStart => exact ⟨(x4_3), (0), (by first | rfl | (simp; done) | (simp [*]; done)), (by first | rfl | (simp; done) | (simp [*]; done)), H', ⟨Nat.le_refl _⟩, ⟨by (with_reducible repeat (first | refine blk_drewN ?_ _ | refine blk_drew ?_ | refine blk_alloc ?_ _)); exact BK293.out⟩, ⟨by repeat (first | (with_reducible first | exact HB.out | apply below_alloc | apply pw_below_drewN | apply below_drew1 | refine below_set ?_ GE293.out) | exact HB.out)⟩⟩
   case round =>
    clear H'
    try clear c1
    try clear p2
    try clear c7
    try clear c7b0
    try clear c7b1
    try clear c7b2
    try clear c8
    try clear hcz6_0
    try clear hcz6_1
    try clear hcz6_2
    try clear hcz6_3
    try clear hcz6_4
    try clear hfz6_0
    try clear hfz6_1
    try clear hfz6_2
    try clear hfz6_3
    try clear hfz6_4
    try clear p2
    obtain ⟨x4_2, x7_2, rfl, rfl, HA, HK2, BK293, HB⟩ := hrel
    cases gk with
    | zero => exact absurd HA.out (by simp [caesuraref11_sound.l0])
    | succ k2 =>
     have H := HA.out
     clear HA
     simp only [caesuraref11_sound.l0] at H
     by_cases c9 : x7_2 < (l0_3.length : Int)
     ·rw [if_pos c9] at H
      have c9b0 : decide (x7_2 < (l0_3.length : Int)) = true := decide_eq_true c9
      clear c9
      by_cases c10 : 0 ≤ x7_2
      ·rw [if_pos c10] at H
       have c10b0 : decide (0 ≤ x7_2) = true := decide_eq_true c10
       clear c10
       replace H := Option.bind_eq_some_iff.mp H
       obtain ⟨t297, A110, H⟩ := H
       replace H : (if x4_2 = true then (caesuraref11_sound.l0 k2 (l0_0.length : Int) t297 (wrap64 (x7_2 + 1)) l0_0 l0_1 l0_2 l0_3 a0_4) else (caesuraref11_sound.l0 k2 (l0_0.length : Int) false (wrap64 (x7_2 + 1)) l0_0 l0_1 l0_2 l0_3 a0_4)) = some r := H
       have A11 := Aside0.mk A110
       clear A110
       by_cases c12 : x4_2 = true
       ·subst c12
        have H1 : (caesuraref11_sound.l0 k2 (l0_0.length : Int) t297 (wrap64 (x7_2 + 1)) l0_0 l0_1 l0_2 l0_3 a0_4) = some r := by rw [if_pos rfl] at H; exact H
        clear H
        have H := H1
        clear H1
        have H' := Aside0.mk H
        clear H
        have hcz13_0 : wr.cell? ⟨gb293, 0, none⟩ = some (.slice A0_0 l0_0.length c0_0) := (blk_cell BK293.out 0).trans rfl
        have hcz13_1 : wr.cell? ⟨gb293, 1, none⟩ = some (.slice A0_1 l0_1.length c0_1) := (blk_cell BK293.out 1).trans rfl
        have hcz13_2 : wr.cell? ⟨gb293, 2, none⟩ = some (.slice A0_2 l0_2.length c0_2) := (blk_cell BK293.out 2).trans rfl
        have hcz13_3 : wr.cell? ⟨gb293, 3, none⟩ = some (.slice A0_3 l0_3.length c0_3) := (blk_cell BK293.out 3).trans rfl
        have hcz13_4 : wr.cell? ⟨gb293, 4, none⟩ = some (.bool a0_4) := (blk_cell BK293.out 4).trans rfl
        have hfz13_0 := blk_frozen BK293.out 0
        have hfz13_1 := blk_frozen BK293.out 1
        have hfz13_2 := blk_frozen BK293.out 2
        have hfz13_3 := blk_frozen BK293.out 3
        have hfz13_4 := blk_frozen BK293.out 4
        have p296 : 0 ≤ (x7_2 : Int) := of_decide_eq_true (by first | (with_reducible assumption) | assumption)
        have q296 : x7_2 < (l0_3.length : Int) := of_decide_eq_true (by first | (with_reducible assumption) | assumption)
        obtain ⟨ad296, A296_0, c296_0, e296, hx296_0, hl296_0, hi296_0⟩ := at_L1 HR0_3.out x7_2 p296 q296
        cases e296
        replace hx296_0 := (HB.out.cell (World.block_lt_of_cell? w _ hx296_0)).trans hx296_0
        have HR296_0 := Aside0.mk hi296_0
        have HC296_0 := Aside0.mk hl296_0
        clear hi296_0 hl296_0
        replace p296 := eq_true p296
        replace q296 := eq_true q296
        go_wp2_with (first | ((with_reducible refine gate_callee (f := 114) rfl ?_); refine goesL_ (some 45) rfl rfl Tryd.func114 (by kernel_rfl) rfl #[.slice A296_0 (rd_L1 l0_3 x7_2).length c296_0, .int .i64 (l0_0.length : Int)] rfl (by (try simp only [List.map_toArray, List.map_cons, List.map_nil]); first | done | rfl | (simp only [List.length_drop, List.length_take]; rfl)) ?_; (with_reducible refine (caesuraref11_inside.calls k2 _ _ (rd_L1 l0_3 x7_2) (l0_0.length : Int) t297 _ ?side1 ?side2 A11.out).mono ?_); (case side1 => repeat (first | exact (Kd.C_below HR296_0.out HB.out) | (with_reducible refine Kd.C_alloc ?_ _) | (with_reducible refine Kd.C_drewN ?_ _) | (with_reducible refine Kd.C_drew ?_))); (case side2 => exact HC296_0.out); rintro e w' ⟨rfl, ⟨nd, rfl⟩⟩; refine ⟨_, rfl, ?_⟩))
        go_roundg k2
        case measure => have := HJ3.out; have := HK2.out; omega
        case rel => exact ⟨(t297), (wrap64 (x7_2 + 1)), (by first | rfl | (simp; done) | (simp [*]; done)), (by first | rfl | (simp; done) | (simp [*]; done)), H', ⟨by have := HJ3.out; have := HK2.out; omega⟩, ⟨by (with_reducible repeat (first | refine blk_drewN ?_ _ | refine blk_drew ?_ | refine blk_alloc ?_ _)); exact BK293.out⟩, ⟨by repeat (first | (with_reducible first | exact HB.out | apply below_alloc | apply pw_below_drewN | apply below_drew1 | refine below_set ?_ GE293.out) | exact HB.out)⟩⟩
       ·replace c12 := Bool.eq_false_iff.mpr c12
        subst c12
        have H1 : (caesuraref11_sound.l0 k2 (l0_0.length : Int) false (wrap64 (x7_2 + 1)) l0_0 l0_1 l0_2 l0_3 a0_4) = some r := by rw [if_neg (show ¬ (false = true) by decide)] at H; exact H
        clear H
        have H := H1
        clear H1
        have H' := Aside0.mk H
        clear H
        have hcz14_0 : wr.cell? ⟨gb293, 0, none⟩ = some (.slice A0_0 l0_0.length c0_0) := (blk_cell BK293.out 0).trans rfl
        have hcz14_1 : wr.cell? ⟨gb293, 1, none⟩ = some (.slice A0_1 l0_1.length c0_1) := (blk_cell BK293.out 1).trans rfl
        have hcz14_2 : wr.cell? ⟨gb293, 2, none⟩ = some (.slice A0_2 l0_2.length c0_2) := (blk_cell BK293.out 2).trans rfl
        have hcz14_3 : wr.cell? ⟨gb293, 3, none⟩ = some (.slice A0_3 l0_3.length c0_3) := (blk_cell BK293.out 3).trans rfl
        have hcz14_4 : wr.cell? ⟨gb293, 4, none⟩ = some (.bool a0_4) := (blk_cell BK293.out 4).trans rfl
        have hfz14_0 := blk_frozen BK293.out 0
        have hfz14_1 := blk_frozen BK293.out 1
        have hfz14_2 := blk_frozen BK293.out 2
        have hfz14_3 := blk_frozen BK293.out 3
        have hfz14_4 := blk_frozen BK293.out 4
        have p296 : 0 ≤ (x7_2 : Int) := of_decide_eq_true (by first | (with_reducible assumption) | assumption)
        have q296 : x7_2 < (l0_3.length : Int) := of_decide_eq_true (by first | (with_reducible assumption) | assumption)
        obtain ⟨ad296, A296_0, c296_0, e296, hx296_0, hl296_0, hi296_0⟩ := at_L1 HR0_3.out x7_2 p296 q296
        cases e296
        replace hx296_0 := (HB.out.cell (World.block_lt_of_cell? w _ hx296_0)).trans hx296_0
        have HR296_0 := Aside0.mk hi296_0
        have HC296_0 := Aside0.mk hl296_0
        clear hi296_0 hl296_0
        replace p296 := eq_true p296
        replace q296 := eq_true q296
        go_wp2_with (first | ((with_reducible refine gate_callee (f := 114) rfl ?_); refine goesL_ (some 45) rfl rfl Tryd.func114 (by kernel_rfl) rfl #[.slice A296_0 (rd_L1 l0_3 x7_2).length c296_0, .int .i64 (l0_0.length : Int)] rfl (by (try simp only [List.map_toArray, List.map_cons, List.map_nil]); first | done | rfl | (simp only [List.length_drop, List.length_take]; rfl)) ?_; (with_reducible refine (caesuraref11_inside.calls k2 _ _ (rd_L1 l0_3 x7_2) (l0_0.length : Int) t297 _ ?side1 ?side2 A11.out).mono ?_); (case side1 => repeat (first | exact (Kd.C_below HR296_0.out HB.out) | (with_reducible refine Kd.C_alloc ?_ _) | (with_reducible refine Kd.C_drewN ?_ _) | (with_reducible refine Kd.C_drew ?_))); (case side2 => exact HC296_0.out); rintro e w' ⟨rfl, ⟨nd, rfl⟩⟩; refine ⟨_, rfl, ?_⟩))
        go_roundg k2
        case measure => have := HJ3.out; have := HK2.out; omega
        case rel => exact ⟨(false), (wrap64 (x7_2 + 1)), (by first | rfl | (simp; done) | (simp [*]; done)), (by first | rfl | (simp; done) | (simp [*]; done)), H', ⟨by have := HJ3.out; have := HK2.out; omega⟩, ⟨by (with_reducible repeat (first | refine blk_drewN ?_ _ | refine blk_drew ?_ | refine blk_alloc ?_ _)); exact BK293.out⟩, ⟨by repeat (first | (with_reducible first | exact HB.out | apply below_alloc | apply pw_below_drewN | apply below_drew1 | refine below_set ?_ GE293.out) | exact HB.out)⟩⟩
      ·rw [if_neg c10] at H
       exact absurd H (by simp)
     ·rw [if_neg c9] at H
      have c9b0 : decide (x7_2 < (l0_3.length : Int)) = false := decide_eq_false c9
      clear c9
      obtain rfl := Option.some.inj H
      have hcz15_0 : wr.cell? ⟨gb293, 0, none⟩ = some (.slice A0_0 l0_0.length c0_0) := (blk_cell BK293.out 0).trans rfl
      have hcz15_1 : wr.cell? ⟨gb293, 1, none⟩ = some (.slice A0_1 l0_1.length c0_1) := (blk_cell BK293.out 1).trans rfl
      have hcz15_2 : wr.cell? ⟨gb293, 2, none⟩ = some (.slice A0_2 l0_2.length c0_2) := (blk_cell BK293.out 2).trans rfl
      have hcz15_3 : wr.cell? ⟨gb293, 3, none⟩ = some (.slice A0_3 l0_3.length c0_3) := (blk_cell BK293.out 3).trans rfl
      have hcz15_4 : wr.cell? ⟨gb293, 4, none⟩ = some (.bool a0_4) := (blk_cell BK293.out 4).trans rfl
      have hfz15_0 := blk_frozen BK293.out 0
      have hfz15_1 := blk_frozen BK293.out 1
      have hfz15_2 := blk_frozen BK293.out 2
      have hfz15_3 := blk_frozen BK293.out 3
      have hfz15_4 := blk_frozen BK293.out 4
      go_wp2
      go_ret
      exact ⟨by first | rfl | (simp [errW_none, errW_some] <;> rfl) | (simp [*, errW_none, errW_some] <;> rfl), by repeat (first | (with_reducible first | exact HB.out | apply below_alloc | apply pw_below_drewN | apply below_drew1 | refine below_set ?_ GE293.out) | exact HB.out)⟩

end Go.Proofs.YtfonajakaimnoaaDoor.Lib

/- The document's has and sound come to the plain questions. -/
namespace Go.Proofs.YtfonajakaimnoaaDoor.C11
open Go.RowKit Go.Proofs.YtfonajakaimnoaaDoorW.PrintWords Go.Proofs.YtfonajakaimnoaaDoorW.PrintLast Go.Proofs.YtfonajakaimnoaaDoorW.PrintMore Go.Proofs.YtfonajakaimnoaaDoor.Lib Lent Go.Proofs.YtfonajakaimnoaaDoor.Fn
set_option linter.unusedVariables false
set_option linter.unusedSimpArgs false

theorem doc_has_loop (l : List Int) (x : Int) (hl : l.length ≤ 9223372036854775807) : ∀ (d i k : Nat), i ≤ l.length → l.length - i = d → d < k → caesuraref11_has.l0 k l x i = some ((l.drop i).any (isB x)) := by
 intro d
 induction d with
 | zero =>
  intro i k hi hd hk
  obtain ⟨k, rfl⟩ : ∃ m, k = m + 1 := ⟨k - 1, by omega⟩
  simp only [caesuraref11_has.l0]
  rw [if_neg (by omega), List.drop_of_length_le (by omega)]
  rfl
 | succ d ih =>
  intro i k hi hd hk
  obtain ⟨k, rfl⟩ : ∃ m, k = m + 1 := ⟨k - 1, by omega⟩
  have hil : i < l.length := by omega
  have hw : wrap64 ((i : Int) + 1) = ((i + 1 : Nat) : Int) := by rw [wrap_succ (n := l.length) (by omega) (by omega) (by omega)]; omega
  simp only [caesuraref11_has.l0]
  rw [if_pos (by omega), if_pos (by omega), rd_at l i hil, List.drop_eq_getElem_cons hil, List.any_cons]
  by_cases h1 : l[i] = x
  ·rw [if_pos h1, show isB x l[i] = true from decide_eq_true h1.symm, Bool.true_or]
  ·rw [if_neg h1, hw, ih (i + 1) k (by omega) (by omega) (by omega), show isB x l[i] = false from decide_eq_false (fun e => h1 e.symm), Bool.false_or]
theorem doc_has_ev (l : List Int) (x : Int) (hl : l.length ≤ 9223372036854775807) : Ev (fun k => caesuraref11_has.f k l x) (l.any (isB x)) :=
 ⟨l.length + 1, fun k hk => doc_has_loop l x hl l.length 0 k (by omega) (by omega) (by omega)⟩
theorem doc_inside_ev (l : List Int) (n : Nat) (hl : l.length ≤ 9223372036854775807) : Ev (fun k => caesuraref11_inside.f k l n) (!(l.any (wrongB n))) :=
 ⟨l.length + 1, fun k hk => doc_inside_loop l n hl l.length 0 k (by omega) (by omega) (by omega)⟩
theorem doc_sound_loop (L : LL) (F La : List Int) (Fo : LL) (b : Bool) (n : Nat) (hFo : Fo.length ≤ 9223372036854775807) (hr : ∀ x ∈ Fo, x.length ≤ 9223372036854775807) : ∀ (d i : Nat) (q : Bool), i ≤ Fo.length → Fo.length - i = d →
  Ev (fun k => caesuraref11_sound.l0 k n q i L F La Fo b) (q && !((Fo.drop i).any fun l => l.any (wrongB n))) := by
 intro d
 induction d with
 | zero =>
  intro i q hi hd
  refine Ev.step (f := fun _ => some q) (fun k => ?_) (by rw [List.drop_of_length_le (by omega), List.any_nil, Bool.not_false, Bool.and_true]; exact Ev.now _)
  simp only [caesuraref11_sound.l0]
  rw [if_neg (by omega)]
 | succ d ih =>
  intro i q hi hd
  have hil : i < Fo.length := by omega
  have hw : wrap64 ((i : Int) + 1) = ((i + 1 : Nat) : Int) := by rw [wrap_succ (n := Fo.length) (by omega) (by omega) (by omega)]; omega
  have hrow : rd_L1 Fo (i : Int) = Fo[i] := by
   unfold rd_L1
   rw [show ((i : Int)).toNat = i from rfl, List.getD_eq_getElem?_getD, List.getElem?_eq_getElem hil]
   rfl
  refine Ev.step (f := fun k => (caesuraref11_inside.f k Fo[i] n).bind fun t => if q = true then caesuraref11_sound.l0 k n t ((i + 1 : Nat) : Int) L F La Fo b else caesuraref11_sound.l0 k n false ((i + 1 : Nat) : Int) L F La Fo b) (fun k => ?_) (Ev.bind (doc_inside_ev Fo[i] n (hr _ (List.getElem_mem hil))) ?_)
  ·conv => lhs; unfold caesuraref11_sound.l0
   rw [if_pos (by omega), if_pos (by omega), hw, hrow]
  ·rw [List.drop_eq_getElem_cons hil, List.any_cons, Bool.not_or]
   cases q with
   | true =>
    refine Ev.congr (fun k => if_pos rfl) ?_
    rw [Bool.true_and]
    exact ih (i + 1) _ (by omega) (by omega)
   | false =>
    refine Ev.congr (fun k => if_neg (by decide)) ?_
    have := ih (i + 1) false (by omega) (by omega)
    rwa [Bool.false_and] at this ⊢
theorem doc_sound_ev (L : LL) (F La : List Int) (Fo : LL) (b : Bool) (hF : F.length ≤ 9223372036854775807) (hLa : La.length ≤ 9223372036854775807) (hFo : Fo.length ≤ 9223372036854775807) (hr : ∀ x ∈ Fo, x.length ≤ 9223372036854775807) :
  Ev (fun k => caesuraref11_sound.f k L F La Fo b) (placedB L F La Fo) := by
 unfold caesuraref11_sound.f
 refine Ev.bind (doc_inside_ev F L.length hF) (Ev.bind (doc_inside_ev La L.length hLa) ?_)
 have hj : ∀ q, Ev (fun k => caesuraref11_sound.j0 k L.length q L F La Fo b) (q && !(Fo.any fun l => l.any (wrongB L.length))) := fun q =>
  Ev.step (f := fun k => caesuraref11_sound.l0 k L.length q ((0 : Nat) : Int) L F La Fo b) (fun k => by simp only [caesuraref11_sound.j0]; rfl) (doc_sound_loop L F La Fo b L.length hFo hr Fo.length 0 q (by omega) (by omega))
 have hp : placedB L F La Fo = (decide (Fo.length = L.length) && (!F.any (wrongB L.length) && (!La.any (wrongB L.length) && !(Fo.any fun l => l.any (wrongB L.length))))) := by
  simp only [placedB, List.any_cons, Bool.not_or]
 rw [hp]
 by_cases h : Fo.length = L.length
 ·have hi : (Fo.length : Int) = (L.length : Int) := by omega
  rw [decide_eq_true h, Bool.true_and]
  simp only [if_pos hi]
  cases hq : F.any (wrongB L.length) with
  | true =>
   simp only [Bool.not_true, Bool.false_eq_true, if_false, Bool.false_and]
   have := hj false
   rwa [Bool.false_and] at this
  | false =>
   simp only [Bool.not_false, if_true, Bool.true_and]
   exact hj _
 ·have hi : ¬ (Fo.length : Int) = (L.length : Int) := by omega
  rw [decide_eq_false h, Bool.false_and]
  simp only [if_neg hi]
  have := hj false
  rwa [Bool.false_and] at this
end Go.Proofs.YtfonajakaimnoaaDoor.C11
