/- Part of a proof: texts of one seat, one behind the other. -/
import Derived.Test.YtfonajakaimnoaaDoorProg
import Derived.Below
import Derived.Deep.Draws
import Derived.Deep.AppendLies
import Derived.Maps.AppendAt
import Derived.OwnWalk
import Derived.Laws.BytesArg
import Derived.Laws.MakeOwn
import Derived.Laws.OwnMore
import Derived.Deep.OwnRows
import Derived.Tactics
import Derived.Lib.ConvBytes
import Derived.Laws.Slices
import Derived.WalkKit
import Derived.KernelRfl
import Derived.RowKit3
import Derived.Deep.LoopGhost
import Derived.Deep.QuietTactic
import Derived.BigQuiet
import Derived.WideLaws
import Derived.Deep.DeepCutAuto
import Derived.Deep.CutBlock
import Derived.Deep.RegionHeld3
import Derived.Laws.Rows
import Derived.Lib.AppendStr
import Derived.ArgAppend
import Derived.Laws.IdiomCopy
import Derived.OrdersHeld
import Derived.Laws.BitsLemmas
import Derived.RowKit
import Derived.Test.YtfonajakaimnoaaDoorMS0
import Derived.Laws.StructEq
import Derived.Laws.EntriesVeiled
import Derived.Shelf.Abstract
import Derived.StillTailTactics
import Derived.Lib.SliceRun
import Derived.Test.YtfonajakaimnoaaDoorRows
import Derived.LaidLaws
import Derived.LaidEql

namespace Go.Proofs.YtfonajakaimnoaaDoor.Lib
open Go.RowKit Go.Proofs.YtfonajakaimnoaaDoorW.PrintWords Go.Proofs.YtfonajakaimnoaaDoorW.PrintLast Go.Proofs.YtfonajakaimnoaaDoorW.PrintMore
attribute [local go_sem] max2_int min2_int max_two min_two max_three min_three max_four min_four   -- for this text's walks alone
set_option linter.unusedVariables false
set_option linter.unusedSimpArgs false
def errW : Option Int → Value
 | none => .nilIface
 | some c => .iface 0 (.int .i64 c)
theorem errW_none : errW none = .nilIface := rfl
theorem errW_some (c : Int) : errW (some c) = .iface 0 (.int .i64 c) := rfl
theorem info3 : (Tryd.prog.info? 3).map (fun i => (i.zero, i.size, i.bytes)) = some (some (.int .i64 0), 1, 8) := by kernel_rfl
theorem info25 : (Tryd.prog.info? 25).map (fun i => (i.zero, i.size, i.bytes)) = some (some (.slice none 0 0), 1, 24) := by kernel_rfl
def rd_L1 (xs : List (List Int)) (i : Int) : (List Int) := xs.getD i.toNat ([] : List Int)
theorem at_L1 {w : World} {A : Option Addr} {n : Nat} {xs : List (List Int)} (h : Kd.C (Kd.slice 3 (Kd.int .i64)) w A n xs) (i : Int) (h0 : 0 ≤ i) (h1 : i < n) : ∃ ad A0 c0, A = some ad ∧ w.cell? (ad.add i.toNat) = some (.slice A0 (rd_L1 xs i).length c0) ∧ (rd_L1 xs i).length ≤ c0 ∧ (Kd.int .i64).C w A0 (rd_L1 xs i).length (rd_L1 xs i) := by
 obtain ⟨ad, c, e, _, hK, hc0⟩ := Kd.C_get h ([] : List Int) i h0 h1
 have hc : ∀ j u, c[j]? = some u → w.cell? (ad.add (i.toNat * 1 + j)) = some u := hc0
 obtain ⟨A0, c0, rfl, l0, g0⟩ := hK
 exact ⟨ad, A0, c0, e, by have hq := hc 0 _ rfl; rwa [Nat.mul_one, Nat.add_zero] at hq, l0, g0⟩
structure S93 where
 f0 : Int
 f1 : Int
def z93 : S93 := ⟨(0 : Int), (0 : Int)⟩
def k93 : Kd S93 := Kd.iso (Kd.pair (Kd.int .i64) (Kd.int .i64)) (fun x : S93 => (x.f0, x.f1))
theorem k93_open {w : World} {x : S93} {cs : List Value} (h : k93.K w x cs) : cs = [.int .i64 x.f0, .int .i64 x.f1] := by
 obtain ⟨_, _, rfl, rfl, rfl⟩ := h
 exact rfl
theorem k93_mkM (w : World) (base : Nat) (ok : Nat → Prop) (x : S93)  : k93.M w base ok x [.int .i64 x.f0, .int .i64 x.f1] := ⟨[.int .i64 x.f0], [.int .i64 x.f1], rfl, rfl, rfl⟩
structure S95 where
 f0 : S93
 f1 : Int
 f2 : Int
def z95 : S95 := ⟨z93, (0 : Int), (0 : Int)⟩
def k95 : Kd S95 := Kd.iso (Kd.pair k93 (Kd.pair (Kd.int .i64) (Kd.int .i64))) (fun x : S95 => (x.f0, x.f1, x.f2))
theorem k95_open {w : World} {x : S95} {cs : List Value} (h : k95.K w x cs) : cs = [.int .i64 x.f0.f0, .int .i64 x.f0.f1, .int .i64 x.f1, .int .i64 x.f2] := by
 obtain ⟨_, _, rfl, s0, ⟨_, _, rfl, rfl, rfl⟩⟩ := h
 obtain rfl := k93_open s0
 exact rfl
theorem k95_mkM (w : World) (base : Nat) (ok : Nat → Prop) (x : S95)  : k95.M w base ok x [.int .i64 x.f0.f0, .int .i64 x.f0.f1, .int .i64 x.f1, .int .i64 x.f2] := ⟨[.int .i64 x.f0.f0, .int .i64 x.f0.f1], [.int .i64 x.f1, .int .i64 x.f2], rfl, (k93_mkM w base ok x.f0 ), ⟨[.int .i64 x.f1], [.int .i64 x.f2], rfl, rfl, rfl⟩⟩
def rd_T95 (xs : List S95) (i : Int) : S95 := xs.getD i.toNat z95
theorem at_T95 {w : World} {A : Option Addr} {n : Nat} {xs : List S95} (h : Kd.C k95 w A n xs) (i : Int) (h0 : 0 ≤ i) (h1 : i < n) : ∃ ad , A = some ad ∧ w.cell? (ad.add (i.toNat * 4)) = some (.int .i64 (rd_T95 xs i).f0.f0) ∧ w.cell? ⟨(ad.add (i.toNat * 4)).block, (ad.add (i.toNat * 4)).off + 1, none⟩ = some (.int .i64 (rd_T95 xs i).f0.f1) ∧ w.cell? ⟨(ad.add (i.toNat * 4)).block, (ad.add (i.toNat * 4)).off + 2, none⟩ = some (.int .i64 (rd_T95 xs i).f1) ∧ w.cell? ⟨(ad.add (i.toNat * 4)).block, (ad.add (i.toNat * 4)).off + 3, none⟩ = some (.int .i64 (rd_T95 xs i).f2) := by
 obtain ⟨ad, c, e, _, hK, hc0⟩ := Kd.C_get h z95 i h0 h1
 have hc : ∀ j u, c[j]? = some u → w.cell? (ad.add (i.toNat * 4 + j)) = some u := hc0
 obtain rfl := k95_open hK
 exact ⟨ad, e, hc 0 _ rfl, by rw [← add_field _ _ 1 (by omega)]; exact hc 1 _ rfl, by rw [← add_field _ _ 2 (by omega)]; exact hc 2 _ rfl, by rw [← add_field _ _ 3 (by omega)]; exact hc 3 _ rfl⟩
structure S102 where
 f0 : Int
 f1 : Int
 f2 : Int
 f3 : Int
def z102 : S102 := ⟨(0 : Int), (0 : Int), (0 : Int), (0 : Int)⟩
def k102 : Kd S102 := Kd.iso (Kd.pair (Kd.int .i64) (Kd.pair (Kd.int .i64) (Kd.pair (Kd.int .i64) (Kd.int .i64)))) (fun x : S102 => (x.f0, x.f1, x.f2, x.f3))
theorem k102_open {w : World} {x : S102} {cs : List Value} (h : k102.K w x cs) : cs = [.int .i64 x.f0, .int .i64 x.f1, .int .i64 x.f2, .int .i64 x.f3] := by
 obtain ⟨_, _, rfl, rfl, ⟨_, _, rfl, rfl, ⟨_, _, rfl, rfl, rfl⟩⟩⟩ := h
 exact rfl
theorem k102_mkM (w : World) (base : Nat) (ok : Nat → Prop) (x : S102)  : k102.M w base ok x [.int .i64 x.f0, .int .i64 x.f1, .int .i64 x.f2, .int .i64 x.f3] := ⟨[.int .i64 x.f0], [.int .i64 x.f1, .int .i64 x.f2, .int .i64 x.f3], rfl, rfl, ⟨[.int .i64 x.f1], [.int .i64 x.f2, .int .i64 x.f3], rfl, rfl, ⟨[.int .i64 x.f2], [.int .i64 x.f3], rfl, rfl, rfl⟩⟩⟩
def rd_T102 (xs : List S102) (i : Int) : S102 := xs.getD i.toNat z102
theorem at_T102 {w : World} {A : Option Addr} {n : Nat} {xs : List S102} (h : Kd.C k102 w A n xs) (i : Int) (h0 : 0 ≤ i) (h1 : i < n) : ∃ ad , A = some ad ∧ w.cell? (ad.add (i.toNat * 4)) = some (.int .i64 (rd_T102 xs i).f0) ∧ w.cell? ⟨(ad.add (i.toNat * 4)).block, (ad.add (i.toNat * 4)).off + 1, none⟩ = some (.int .i64 (rd_T102 xs i).f1) ∧ w.cell? ⟨(ad.add (i.toNat * 4)).block, (ad.add (i.toNat * 4)).off + 2, none⟩ = some (.int .i64 (rd_T102 xs i).f2) ∧ w.cell? ⟨(ad.add (i.toNat * 4)).block, (ad.add (i.toNat * 4)).off + 3, none⟩ = some (.int .i64 (rd_T102 xs i).f3) := by
 obtain ⟨ad, c, e, _, hK, hc0⟩ := Kd.C_get h z102 i h0 h1
 have hc : ∀ j u, c[j]? = some u → w.cell? (ad.add (i.toNat * 4 + j)) = some u := hc0
 obtain rfl := k102_open hK
 exact ⟨ad, e, hc 0 _ rfl, by rw [← add_field _ _ 1 (by omega)]; exact hc 1 _ rfl, by rw [← add_field _ _ 2 (by omega)]; exact hc 2 _ rfl, by rw [← add_field _ _ 3 (by omega)]; exact hc 3 _ rfl⟩
end Go.Proofs.YtfonajakaimnoaaDoor.Lib

namespace Go.Proofs.YtfonajakaimnoaaDoor.Lent
open Go.RowKit Go.Proofs.YtfonajakaimnoaaDoorW.PrintWords Go.Proofs.YtfonajakaimnoaaDoorW.PrintLast Go.Proofs.YtfonajakaimnoaaDoorW.PrintMore
section
variable {α : Type} {d : Kd α} {w : World} {A : Option Addr}
theorem C_pre {xs ys : List α} (h : d.C w A (xs ++ ys).length (xs ++ ys)) : d.C w A xs.length xs := by
 obtain ⟨_, h2, h3⟩ := h
 rw [List.length_append] at h2 h3
 refine ⟨rfl, by omega, fun hn => ?_⟩
 obtain ⟨ad, e, hc⟩ := h3 (by omega)
 exact ⟨ad, e, fun j p hj => hc j p (by rw [List.getElem?_append_left (List.getElem?_eq_some_iff.1 hj).1]; exact hj)⟩
theorem C_nth {xs : List α} {n : Nat} (h : d.C w A n xs) (j : Nat) (p : α) (hj : xs[j]? = some p) : ∃ ad c, A = some ad ∧ d.K w p c ∧ ∀ i u, c[i]? = some u → w.cell? (ad.add (j * d.sz + i)) = some u := by
 obtain ⟨h1, _, h3⟩ := h
 have := (List.getElem?_eq_some_iff.1 hj).1
 obtain ⟨ad, e, hc⟩ := h3 (by omega)
 obtain ⟨c, _, hK, hu⟩ := hc j p hj
 exact ⟨ad, c, e, hK, hu⟩
theorem C_bound {xs : List α} {n : Nat} (h : d.C w A n xs) : xs.length ≤ 9223372036854775807 := by
 obtain ⟨h1, h2, _⟩ := h
 omega
end
end Go.Proofs.YtfonajakaimnoaaDoor.Lent

namespace Go.Proofs.YtfonajakaimnoaaDoor.Fn
open Go.RowKit Go.Proofs.YtfonajakaimnoaaDoorW.PrintWords Go.Proofs.YtfonajakaimnoaaDoorW.PrintLast Go.Proofs.YtfonajakaimnoaaDoorW.PrintMore Go.Proofs.YtfonajakaimnoaaDoor.Lib Lent
def idx {α : Type} (p : α → Bool) : List α → Int
 | [] => -1
 | x :: r => if p x then 0 else (if idx p r < 0 then -1 else idx p r + 1)
theorem idx_any {α : Type} (p : α → Bool) (l : List α) : decide (idx p l ≥ 0) = l.any p := by
 induction l with
 | nil => rfl
 | cons x r ih =>
  simp only [idx, List.any_cons]
  by_cases h : p x = true
  ·simp [h]
  ·simp only [h, Bool.false_eq_true, if_false, Bool.false_or]
   rw [← ih]
   by_cases h2 : idx p r < 0
   ·simp [h2]
   ·simp only [h2, if_false]
    simp only [show idx p r + 1 ≥ 0 from by omega, show idx p r ≥ 0 from by omega]
theorem idx_hit {α : Type} (p : α → Bool) (l : List α) (k : Nat) (x : α) (hk : l[k]? = some x) (hx : p x = true) (h : ∀ (j : Nat) (y : α), j < k → l[j]? = some y → p y = false) : idx p l = k := by
 induction l generalizing k with
 | nil => simp at hk
 | cons y r ih =>
  cases k with
  | zero =>
   simp only [List.getElem?_cons_zero, Option.some.injEq] at hk
   subst hk
   simp [idx, hx]
  | succ k =>
   have h0 := h 0 y (by omega) rfl
   have := ih k (by simpa using hk) (fun j z hj hz => h (j + 1) z (by omega) (by simpa using hz))
   simp only [idx, h0, Bool.false_eq_true, if_false, this]
   rw [if_neg (by omega)]
   rfl
theorem idx_miss {α : Type} (p : α → Bool) (l : List α) (h : ∀ (j : Nat) (y : α), l[j]? = some y → p y = false) : idx p l = -1 := by
 induction l with
 | nil => rfl
 | cons y r ih =>
  have h0 := h 0 y rfl
  have := ih (fun j z hz => h (j + 1) z (by simpa using hz))
  simp only [idx, h0, Bool.false_eq_true, if_false, this]
  rfl
theorem int_at {w : World} {A : Option Addr} {n : Nat} {xs : List Int} (h : Kd.C (Kd.int .i64) w A n xs) (j : Nat) (x : Int) (hj : xs[j]? = some x) : ∃ ad, A = some ad ∧ w.cell? (ad.add j) = some (.int .i64 x) := by
 obtain ⟨ad, c, e, hK, hu⟩ := C_nth h j x hj
 obtain rfl : c = [.int .i64 x] := hK
 have := hu 0 _ rfl
 rw [show j * (Kd.int .i64).sz + 0 = j from Nat.mul_one _] at this
 exact ⟨ad, e, this⟩
theorem list_at {w : World} {A : Option Addr} {n : Nat} {xs : List (List Int)} (h : Kd.C (Kd.slice 3 (Kd.int .i64)) w A n xs) (j : Nat) (x : List Int) (hj : xs[j]? = some x) : ∃ ad A' c', A = some ad ∧ w.cell? (ad.add j) = some (.slice A' x.length c') ∧ x.length ≤ c' ∧ Kd.C (Kd.int .i64) w A' x.length x := by
 obtain ⟨ad, c, e, ⟨A', c', rfl, h1, h2⟩, hu⟩ := C_nth h j x hj
 have := hu 0 _ rfl
 rw [show j * (Kd.slice 3 (Kd.int .i64)).sz + 0 = j from Nat.mul_one _] at this
 exact ⟨ad, A', c', e, this, h1, h2⟩
set_option maxHeartbeats 1000000 in
theorem indexFunc_int (g : Nat) (lb : Array Value) (eg : ∀ args w, (callFunc g args).run Tryd.prog w = .ok (.enter g args) w) (p : Int → Bool) (A : Option Addr) (c : Nat) (l : List Int) (w : World)
  (hr : Kd.C (Kd.int .i64) w A l.length l) (hp : ∀ (W : World) (x : Int), Below w.heap.size w W → x ∈ l → Calls Tryd.prog g (#[.int .i64 x] ++ lb) W fun e w' => e = .returned (.bool (p x)) ∧ Below W.heap.size W w') :
  Calls Tryd.prog 112 #[.slice A l.length c, .func (.func g) #[] lb] w fun e w' => e = .returned (.int .i64 (idx p l)) ∧ Below w.heap.size w w' := by
 have hbig := C_bound hr
 have HR := Aside0.mk hr
 have HP := Aside0.mk hp
 clear hr hp
 go_enter Tryd.func112, Tryd.ntmps112
 go_wp2
 go_loopg [5, 8] l.length (fun gg _ s8 wr => ∃ kk : Nat, kk ≤ l.length ∧ l.length - kk ≤ gg ∧ s8 = .int .i64 kk ∧ Aside0 (Below w.heap.size w wr) ∧ Aside0 (∀ (j : Nat) (y : Int), j < kk → l[j]? = some y → p y = false))
 case atStart => exact ⟨0, Nat.zero_le _, by omega, rfl, ⟨Below.refl _ w⟩, ⟨fun j y hj => absurd hj (Nat.not_lt_zero _)⟩⟩
 case round =>
  obtain ⟨kk, hkk, hg, rfl, BW, AA⟩ := hrel
  by_cases hlt : kk < l.length
  ·have hltz : (kk : Int) < (l.length : Int) := by omega
   obtain ⟨ad, rfl, hcell⟩ := int_at (Kd.C_below HR.out BW.out) kk l[kk] (List.getElem?_eq_getElem hlt)
   have hcall := Aside0.mk (HP.out wr l[kk] BW.out (List.getElem_mem hlt))
   have hy : Aside0 (l[kk]? = some l[kk]) := ⟨List.getElem?_eq_getElem hlt⟩
   generalize l[kk] = y at hcell hcall hy
   cases hq : p y with
   | true =>
    have HQ := Aside0.mk hq
    rw [hq] at hcall
    clear hq
    go_wp2_with fail
    refine hcall.out.mono ?_
    rintro e w' ⟨rfl, hb'⟩
    go_wp2_with fail
    go_ret
    exact ⟨by rw [idx_hit p l kk y hy.out HQ.out AA.out]; rfl, below_step BW.out hb'⟩
   | false =>
    have HQ := Aside0.mk hq
    rw [hq] at hcall
    clear hq
    go_wp2_with fail
    refine hcall.out.mono ?_
    rintro e w' ⟨rfl, hb'⟩
    go_wp2_with fail
    go_roundg (l.length - (kk + 1))
    case measure => omega
    case rel =>
     refine ⟨kk + 1, by omega, by omega, by go_num, ⟨below_step BW.out hb'⟩, ⟨fun j z hj hz => ?_⟩⟩
     by_cases e : j = kk
     ·subst e
      rw [hy.out] at hz
      cases hz
      exact HQ.out
     ·exact AA.out j z (by omega) hz
  ·have hltz : ¬ (kk : Int) < (l.length : Int) := by omega
   have : kk = l.length := by omega
   subst this
   go_wp2
   go_ret
   exact ⟨by rw [idx_miss p l (fun j y hj => AA.out j y (List.getElem?_eq_some_iff.1 hj).1 hj)]; rfl, BW.out⟩
set_option maxHeartbeats 1000000 in
theorem containsFunc_int (g : Nat) (lb : Array Value) (eg : ∀ args w, (callFunc g args).run Tryd.prog w = .ok (.enter g args) w) (p : Int → Bool) (A : Option Addr) (c : Nat) (l : List Int) (w : World)
  (hr : Kd.C (Kd.int .i64) w A l.length l) (hp : ∀ (W : World) (x : Int), Below w.heap.size w W → x ∈ l → Calls Tryd.prog g (#[.int .i64 x] ++ lb) W fun e w' => e = .returned (.bool (p x)) ∧ Below W.heap.size W w') :
  Calls Tryd.prog 77 #[.slice A l.length c, .func (.func g) #[] lb] w fun e w' => e = .returned (.bool (l.any p)) ∧ Below w.heap.size w w' := by
 have HC := Aside0.mk (indexFunc_int g lb eg p A c l w hr hp)
 clear hr hp
 go_enter Tryd.func77, Tryd.ntmps77
 go_wp2_with fail
 refine HC.out.mono ?_
 rintro e w' ⟨rfl, hb'⟩
 go_wp2_with fail
 go_ret
 exact ⟨by rw [← idx_any]; rfl, hb'⟩
end Go.Proofs.YtfonajakaimnoaaDoor.Fn

namespace Go.Proofs.YtfonajakaimnoaaDoor.C11
open Go.RowKit Go.Proofs.YtfonajakaimnoaaDoorW.PrintWords Go.Proofs.YtfonajakaimnoaaDoorW.PrintLast Go.Proofs.YtfonajakaimnoaaDoorW.PrintMore Go.Proofs.YtfonajakaimnoaaDoor.Lib Lent Go.Proofs.YtfonajakaimnoaaDoor.Fn Go.Shelf
attribute [local go_sem] max2_int min2_int max_two min_two max_three min_three max_four min_four
abbrev LL := List (List Int)
abbrev kI : Kd Int := Kd.int .i64
abbrev kL : Kd (List Int) := Kd.slice 3 (Kd.int .i64)
end Go.Proofs.YtfonajakaimnoaaDoor.C11

namespace Go.Proofs.YtfonajakaimnoaaDoor.C11
open Go.RowKit Go.Proofs.YtfonajakaimnoaaDoorW.PrintWords Go.Proofs.YtfonajakaimnoaaDoorW.PrintLast Go.Proofs.YtfonajakaimnoaaDoorW.PrintMore Go.Proofs.YtfonajakaimnoaaDoor.Lib Lent Go.Proofs.YtfonajakaimnoaaDoor.Fn Go.Shelf
attribute [local go_sem] max2_int min2_int max_two min_two max_three min_three max_four min_four
def risesB (n : Int) (last : Int) : List Int → Bool
 | [] => true
 | x :: r => !decide (x ≤ last) && (!decide (x ≥ n) && risesB n x r)
theorem wrap_succ {i : Int} {n : Nat} (h0 : 0 ≤ i) (h : i < (n : Int)) (hn : n ≤ 9223372036854775807) : wrap64 (i + 1) = i + 1 := by
 unfold wrap64
 omega
theorem all_snoc {α : Type} (xs : List α) (f : α → Bool) (k : Nat) (x : α) (h : xs[k]? = some x) : (xs.take (k + 1)).all f = ((xs.take k).all f && f x) := by
 rw [List.take_add_one, h, List.all_append]
 simp
def errMA (eM eA : Value) (c : Nat) : Value := if c = 3 then eM else if c = 1 then eA else .nilIface
end Go.Proofs.YtfonajakaimnoaaDoor.C11

namespace Go.Proofs.YtfonajakaimnoaaDoor.Lib
open Go.RowKit Go.Proofs.YtfonajakaimnoaaDoorW.PrintWords Go.Proofs.YtfonajakaimnoaaDoorW.PrintLast Go.Proofs.YtfonajakaimnoaaDoorW.PrintMore
attribute [local go_sem] max2_int min2_int max_two min_two max_three min_three max_four min_four   -- for this text's walks alone
set_option linter.unusedVariables false
set_option linter.unusedSimpArgs false
def caesurakit_Ints.l0 : Nat → List Int → List Int → Int → Option (List Int)
 | 0, _, _, _ => none
 | k + 1, x0, x3, x4 => if x4 < (x0.length : Int) then (if 0 ≤ x4 then (if x3.length < 17592186044416 then (caesurakit_Ints.l0 k x0 (x3 ++ [rd x0 x4]) (wrap64 (x4 + 1))) else (none)) else (none)) else (some x3)
def caesurakit_Ints.f (k : Nat) (l0 : List Int) : Option (List Int) := caesurakit_Ints.l0 k l0 ([] : List Int) 0
set_option maxHeartbeats 8000000 in
set_option maxRecDepth 100000 in
theorem caesurakit_Ints.calls (k : Nat) (A0 : Option Addr) (c0 : Nat) (l0 : List Int) (r : List Int) (w : World) (hr0 : Kd.C (Kd.int .i64) w A0 l0.length l0) (hc0 : l0.length ≤ c0) (h : caesurakit_Ints.f k l0 = some r) :
  Calls Tryd.prog 71 #[.slice A0 l0.length c0] w fun e w' => ∃ v0_ : Value, e = .returned (v0_) ∧ Kd.R (Kd.int .i64) 3 w' w.heap.size (fun _ => True) v0_ r ∧ Below w.heap.size w w' := by
 have HR0 := Aside0.mk hr0
 have HC0 := Aside0.mk hc0
 clear hr0 hc0
 have HB := Aside0.mk (Below.refl w.heap.size w)
 have H : (caesurakit_Ints.l0 k l0 ([] : List Int) 0) = some r := h
 clear h
 have H' := Aside0.mk H
 clear H
 go_enter Tryd.func71, Tryd.ntmps71
 go_wp2
 go_loopg [3, 4] k (fun kq v3 v4 w' => ∃ (x3_1 : List Int) (x4_1 : Int), v4 = .int .i64 x4_1 ∧ Aside0 (caesurakit_Ints.l0 kq l0 x3_1 x4_1 = some r) ∧ Aside0 (kq ≤ k) ∧ Aside0 (Kd.R (Kd.int .i64) 3 w' w.heap.size (fun _ => True) v3 x3_1) ∧ Aside0 (Below w.heap.size w w'))
 case atStart => exact ⟨(([] : List Int)), (0), (by first | rfl | (simp; done) | (simp [*]; done)), H', ⟨Nat.le_refl _⟩, ⟨by first | exact Kd.R_nil _ _ _ _ _ | exact Kd.N_nil _ _ _ _ _ | exact Kd.V_nil _ _ _ _ _ | exact Kd.Q_nil _ _ _ _ _ | exact Kd.S_nil _ _ _ _ _⟩, ⟨by repeat (first | (with_reducible first | exact HB.out | apply below_alloc | apply pw_below_drewN | apply below_drew1) | exact HB.out)⟩⟩
 case round =>
  clear H'
  obtain ⟨x3_1, x4_1, rfl, HA, HK1, HO_3, HB⟩ := hrel
  cases gk with
  | zero => exact absurd HA.out (by simp [caesurakit_Ints.l0])
  | succ k1 =>
   have H := HA.out
   clear HA
   simp only [caesurakit_Ints.l0] at H
   by_cases c2 : x4_1 < (l0.length : Int)
   ·rw [if_pos c2] at H
    have c2b0 : decide (x4_1 < (l0.length : Int)) = true := decide_eq_true c2
    clear c2
    by_cases c3 : 0 ≤ x4_1
    ·rw [if_pos c3] at H
     have c3b0 : decide (0 ≤ x4_1) = true := decide_eq_true c3
     clear c3
     by_cases c4 : x3_1.length < 17592186044416
     ·rw [if_pos c4] at H
      have LMc4 := Aside0.mk c4
      clear c4
      obtain ⟨y224, hy224⟩ : ∃ y_ : List Int, y_ = (x3_1 ++ [rd l0 x4_1]) := ⟨_, rfl⟩
      replace H : (caesurakit_Ints.l0 k1 l0 y224 (wrap64 (x4_1 + 1))) = some r := by first | (rw [hy224]; with_reducible exact H) | (have H2_ := (Option.bind_some _ _).symm.trans H; rw [hy224]; with_reducible exact H2_) | (have H2_ := (Option.bind_some _ _).symm.trans H; with_reducible exact H2_) | with_reducible exact H | (rw [hy224]; exact H) | exact H
      have Ny224 := Aside0.mk hy224
      clear hy224
      have H' := Aside0.mk H
      clear H
      have p223 : 0 ≤ (x4_1 : Int) := of_decide_eq_true (by first | (with_reducible assumption) | assumption)
      have q223 : x4_1 < (l0.length : Int) := of_decide_eq_true (by first | (with_reducible assumption) | assumption)
      obtain ⟨ad223, e223, hx223_0⟩ := Kd.at_int HR0.out x4_1 p223 q223
      cases e223
      replace hx223_0 := (HB.out.cell (World.block_lt_of_cell? w _ hx223_0)).trans hx223_0
      replace p223 := eq_true p223
      replace q223 := eq_true q223
      go_wp2_with (first | ((with_reducible refine gate_builtin (b := .append) (xs := #[.tmp 11, .tmp 16]) rfl ?_); at_builtin; refine Kd.R_append (Kd.int .i64) (w0 := w) w.heap.size rfl (.tmp 11) (.tmp 16) 25 3 (.int .i64 0) 8 rfl Tryd.underlying25 info3 rfl (by decide) (by omega) u3 x3_1 (rd l0 x4_1) [.int .i64 (rd l0 x4_1)] (fun _ => True) (fun _ => False) rfl rfl ?aP (fun _ hk => hk.elim) ?aF ?aO ?aB ?aS ?aL ?_; (case aP => exact rfl); (case aB => exact (by repeat (first | (with_reducible first | exact HB.out | apply below_alloc | apply pw_below_drewN | apply below_drew1) | exact HB.out))); (case aF => exact (fun _ _ => trivial)); (case aO => exact (by (with_reducible repeat (first | apply Kd.R_alloc | apply Kd.R_drewN | apply Kd.R_drew)); exact HO_3.out)); (case aS => exact (below_size (by repeat (first | (with_reducible first | exact HB.out | apply below_alloc | apply pw_below_drewN | apply below_drew1) | exact HB.out)))); (case aL => have := LMc4.out; omega); intro v225 w5 ho hb hg hat; rw [← Ny224.out] at ho; have n0_ := Aside0.mk (hb); have n1_ := Aside0.mk (ho); clear HB; clear HO_3; have HB := n0_; have HO226 := n1_; clear n0_ n1_; clear ho hb hg hat))
      go_roundg k1
      case measure => have := HK1.out; omega
      case rel => exact ⟨(y224), (wrap64 (x4_1 + 1)), (by first | rfl | (simp; done) | (simp [*]; done)), H', ⟨by have := HK1.out; omega⟩, ⟨by (with_reducible repeat (first | apply Kd.R_alloc | apply Kd.R_drewN | apply Kd.R_drew)); exact HO226.out⟩, ⟨by repeat (first | (with_reducible first | exact HB.out | apply below_alloc | apply pw_below_drewN | apply below_drew1) | exact HB.out)⟩⟩
     ·rw [if_neg c4] at H
      exact absurd H (by simp)
    ·rw [if_neg c3] at H
     exact absurd H (by simp)
   ·rw [if_neg c2] at H
    have c2b0 : decide (x4_1 < (l0.length : Int)) = false := decide_eq_false c2
    clear c2
    obtain rfl := Option.some.inj H
    go_wp2
    go_ret
    exact ⟨_, by first | rfl | (simp [errW_none, errW_some] <;> rfl) | (simp [*, errW_none, errW_some] <;> rfl), by (with_reducible repeat (first | apply Kd.R_alloc | apply Kd.R_drewN | apply Kd.R_drew)); exact HO_3.out, by repeat (first | (with_reducible first | exact HB.out | apply below_alloc | apply pw_below_drewN | apply below_drew1) | exact HB.out)⟩
end Go.Proofs.YtfonajakaimnoaaDoor.Lib

namespace Go.Proofs.YtfonajakaimnoaaDoor.Lend
open Go.RowKit Go.Proofs.YtfonajakaimnoaaDoorW.PrintWords Go.Proofs.YtfonajakaimnoaaDoorW.PrintLast Go.Proofs.YtfonajakaimnoaaDoorW.PrintMore Go.Proofs.YtfonajakaimnoaaDoor.Lib Lent Go.Proofs.YtfonajakaimnoaaDoor.Fn Go.Proofs.YtfonajakaimnoaaDoor.C11
set_option linter.unusedVariables false
set_option linter.unusedSimpArgs false
attribute [local go_sem] max2_int min2_int max_two min_two max_three min_three max_four min_four
theorem ints_loop (l : List Int) (hl : l.length ≤ 17592186043904) : ∀ (d i k : Nat) (acc : List Int), i ≤ l.length → l.length - i = d → acc.length = i → d < k → caesurakit_Ints.l0 k l acc i = some (acc ++ l.drop i) := by
 intro d
 induction d with
 | zero =>
  intro i k acc hi hd ha hk
  obtain ⟨k, rfl⟩ : ∃ m, k = m + 1 := ⟨k - 1, by omega⟩
  simp only [caesurakit_Ints.l0]
  rw [if_neg (by omega), List.drop_of_length_le (by omega), List.append_nil]
 | succ d ih =>
  intro i k acc hi hd ha hk
  obtain ⟨k, rfl⟩ : ∃ m, k = m + 1 := ⟨k - 1, by omega⟩
  have hw : wrap64 ((i : Int) + 1) = ((i + 1 : Nat) : Int) := by rw [wrap_succ (n := l.length) (by omega) (by omega) (by omega)]; omega
  simp only [caesurakit_Ints.l0]
  rw [if_pos (by omega), if_pos (by omega), if_pos (by omega), hw, ih (i + 1) k _ (by omega) (by omega) (by simp [ha]) (by omega)]
  have : rd l (i : Int) = l[i] := by
   unfold rd
   rw [show ((i : Int)).toNat = i from rfl, List.getD_eq_getElem?_getD, List.getElem?_eq_getElem (by omega)]
   rfl
  rw [this, List.append_assoc, List.drop_eq_getElem_cons (show i < l.length by omega)]
  rfl
theorem ints_eq (l : List Int) (hl : l.length ≤ 17592186043904) : caesurakit_Ints.f (l.length + 1) l = some l := by
 unfold caesurakit_Ints.f
 have := ints_loop l hl l.length 0 (l.length + 1) [] (by omega) (by omega) rfl (by omega)
 simpa using this
theorem cut_past (A : Option Addr) (n c : Nat) (j : Int) (h0 : 0 ≤ j) (hj : j ≤ (c : Int)) (W : World) : (Instr.slice 25 (.slice A n c) none (some (.int .i64 j)) none).run Tryd.prog W = .ok (.slice A j.toNat c) W := by
 obtain ⟨i, hi, _⟩ := Option.map_eq_some_iff.1 info3
 have hel : Tryd.prog.elem 25 = 3 := by simp [Program.elem, Tryd.underlying25]
 have hu : Tryd.prog.underlying 25 = some (.slice (Tryd.prog.elem 25)) := by rw [hel]; exact Tryd.underlying25
 have ha : (A.map fun x => x.add 0) = A := by cases A <;> simp [Addr.add]
 rw [run_slice_h W 25 A n c hu .i64 j h0 hj, hel]
 simp [sizeOf, typeInfo, hi, sliced, ha, Result.andThen]
abbrev marks (l : List Int) : List Int := l ++ [-77, -77]
theorem two_lit {W : World} : Kd.C kI (W.alloc (.cells #[.int .i64 (-77), .int .i64 (-77)] 3)) (some ⟨W.heap.size, 0, none⟩) 2 [-77, -77] :=
 ⟨rfl, by decide, fun _ => ⟨_, rfl, fun j p hj => by
  rcases j with _ | _ | j
  ·simp at hj
   subst hj
   refine ⟨_, rfl, rfl, fun i u hu => ?_⟩
   cases i with
   | zero =>
    simp only [List.getElem?_cons_zero, Option.some.injEq] at hu
    subst hu
    show (W.alloc _).cell? ⟨W.heap.size, 0, none⟩ = _
    go_simp
   | succ i => simp at hu
  ·simp at hj
   subst hj
   refine ⟨_, rfl, rfl, fun i u hu => ?_⟩
   cases i with
   | zero =>
    simp only [List.getElem?_cons_zero, Option.some.injEq] at hu
    subst hu
    show (W.alloc _).cell? ⟨W.heap.size, 1, none⟩ = _
    go_simp
   | succ i => simp at hu
  ·simp at hj⟩⟩
theorem marked_row {w : World} {base : Nat} {v : Value} {l : List Int} (h : Kd.R kI 3 w base (fun _ => True) v (l ++ [-77, -77])) :
  ∃ A c m, v = .slice A m c ∧ Kd.R kI 3 w base (fun _ => True) (.slice A (marks l).length c) (marks l) ∧ ∀ W : World, (Instr.slice 25 (.slice A m c) none (some (.int .i64 l.length)) none).run Tryd.prog W = .ok (.slice A l.length c) W := by
 obtain ⟨A, c, e1, hle, _⟩ := Kd.R_reads h
 have hm : (l ++ [-77, -77]).length = l.length + 2 := by simp
 refine ⟨A, c, _, e1, by rw [← e1]; exact h, fun W => ?_⟩
 have := cut_past A (l ++ [-77, -77]).length c (l.length : Int) (by omega) (by omega) W
 rwa [Int.toNat_natCast] at this
set_option maxHeartbeats 2000000 in
set_option maxRecDepth 10000 in
theorem list_calls (A0 : Option Addr) (c0 : Nat) (l : List Int) (w : World) (hr : Kd.C kI w A0 l.length l) (hc : l.length ≤ c0) (hl : l.length ≤ 17592186043904) :
  Calls Tryd.prog 21 #[.slice A0 l.length c0] w fun e w' => ∃ A c, e = .returned (.slice A l.length c) ∧ Kd.R kI 3 w' w.heap.size (fun _ => True) (.slice A (marks l).length c) (marks l) ∧ Below w.heap.size w w' := by
 have hu := Tryd.underlying25
 have HR := Aside0.mk hr
 have HL := Aside0.mk hl
 have HC := Aside0.mk hc
 clear hr hc
 go_enter Tryd.func21, Tryd.ntmps21
 go_wp2_with fail
 refine (caesurakit_Ints.calls (l.length + 1) A0 c0 l l w HR.out HC.out (ints_eq l HL.out)).mono ?_
 rintro e w1 ⟨v, rfl, ho, hb⟩
 have HO := Aside0.mk ho
 have HB := Aside0.mk hb
 clear ho hb
 go_wp2_with ((with_reducible refine gate_builtin (b := .append) (xs := #[.tmp 6, .tmp 7]) rfl ?_); at_builtin; refine Kd.R_append_rows kI (w0 := w) w.heap.size rfl (.tmp 6) (.tmp 7) 25 3 (.int .i64 0) 8 rfl Tryd.underlying25 info3 rfl (by decide) (by omega) _ l [-77, -77] _ _ _ (fun _ => True) (fun _ => False) rfl rfl ?aO ?aR (fun _ _ h => h) (fun _ h => h.elim) ?aF ?aB ?aS ?aL ?_; (case aR => exact two_lit); (case aB => exact below_alloc HB.out _); (case aF => exact (fun _ _ => trivial)); (case aO => exact Kd.R_alloc HO.out _); (case aS => exact (by have := HB.out.size; simp; omega)); (case aL => have := HL.out; simp; omega); intro vz wz hoz hbz hgz hatz; have HB1 := Aside0.mk hbz; obtain ⟨A, c, m, e1, HO2, hcut⟩ := marked_row hoz; subst e1; have HO3 := Aside0.mk HO2; clear HO2 hoz hbz hgz hatz)
 go_ret
 exact ⟨A, c, rfl, HO3.out, HB1.out⟩
end Go.Proofs.YtfonajakaimnoaaDoor.Lend

namespace Go.Proofs.YtfonajakaimnoaaDoor.Lend
open Go.RowKit Go.Proofs.YtfonajakaimnoaaDoorW.PrintWords Go.Proofs.YtfonajakaimnoaaDoorW.PrintLast Go.Proofs.YtfonajakaimnoaaDoorW.PrintMore Go.Proofs.YtfonajakaimnoaaDoor.Lib Lent Go.Proofs.YtfonajakaimnoaaDoor.Fn Go.Proofs.YtfonajakaimnoaaDoor.C11
set_option linter.unusedVariables false
set_option linter.unusedSimpArgs false
def kM : Kd (List Int × List Int) where
 sz := 1
 E := 3 :: kI.E
 K := fun w x cs => ∃ A c, cs = [.slice A x.1.length c] ∧ (x.1 ++ x.2).length ≤ c ∧ kI.C w A (x.1 ++ x.2).length (x.1 ++ x.2)
 M := fun w base ok x cs => ∃ A c, cs = [.slice A x.1.length c] ∧ kI.R 3 w base ok (.slice A (x.1 ++ x.2).length c) (x.1 ++ x.2)
 K_len := by
  rintro w x cs ⟨A, c, rfl, _⟩
  rfl
 K_one := by
  rintro w x cs ⟨A, c, rfl, _⟩ u hu
  rw [List.mem_singleton.1 hu]
  rfl
 K_below := by
  rintro w w1 x cs hb ⟨A, c, rfl, hl, hr⟩
  exact ⟨A, c, rfl, hl, Kd.C_below hr hb⟩
 K_of_M := by
  rintro w base ok x cs ⟨A, c, rfl, h⟩
  obtain ⟨_, hl, hr⟩ := Kd.R_reads' h
  exact ⟨A, c, rfl, hl, hr⟩
 M_mono := by
  rintro w base ok ok' x cs hok ⟨A, c, rfl, h⟩
  exact ⟨A, c, rfl, Kd.R_mono h hok⟩
 M_bound := by
  rintro w base ok x cs ⟨A, c, rfl, h⟩
  exact ⟨A, c, rfl, Kd.R_bound h⟩
 M_move := by
  rintro w w1 base ok x cs hm ⟨A, c, rfl, h⟩
  exact ⟨A, c, rfl, Kd.R_move h hm⟩
 M_lower := by
  rintro w base base' ok x cs hb ⟨A, c, rfl, h⟩
  exact ⟨A, c, rfl, Kd.R_lower h hb⟩
abbrev withMarks (L : LL) : List (List Int × List Int) := L.map fun l => (l, [-77, -77])
abbrev rowsM (L : LL) : List (List Int × List Int) := withMarks L ++ [([-77], [])]
theorem rowsM_length (L : LL) : (rowsM L).length = L.length + 1 := by simp
theorem lent_C {w : World} {A : Option Addr} {xs : List (List Int × List Int)} (h : kM.C w A xs.length xs) : Kd.C kL w A (xs.map (·.1)).length (xs.map (·.1)) := by
 obtain ⟨_, h2, h3⟩ := h
 rw [List.length_map]
 refine ⟨by simp, h2, fun hn => ?_⟩
 obtain ⟨ad, e, hc⟩ := h3 hn
 refine ⟨ad, e, fun j p hj => ?_⟩
 rw [List.getElem?_map] at hj
 obtain ⟨x, hx, rfl⟩ := Option.map_eq_some_iff.1 hj
 obtain ⟨c, hl, ⟨A', c', rfl, hc', hC⟩, hu⟩ := hc j x hx
 refine ⟨_, hl, ⟨A', c', rfl, by rw [List.length_append] at hc'; omega, C_pre hC⟩, hu⟩
theorem rowM_at {w : World} {A : Option Addr} {n : Nat} {xs : List (List Int × List Int)} (h : kM.C w A n xs) (j : Nat) (x : List Int × List Int) (hj : xs[j]? = some x) :
  ∃ ad A' c', A = some ad ∧ w.cell? (ad.add j) = some (.slice A' x.1.length c') ∧ (x.1 ++ x.2).length ≤ c' ∧ Kd.C kI w A' (x.1 ++ x.2).length (x.1 ++ x.2) := by
 obtain ⟨ad, c, e, ⟨A', c', rfl, h1, h2⟩, hu⟩ := C_nth h j x hj
 have := hu 0 _ rfl
 rw [show j * kM.sz + 0 = j from Nat.mul_one _] at this
 exact ⟨ad, A', c', e, this, h1, h2⟩
end Go.Proofs.YtfonajakaimnoaaDoor.Lend

namespace Go.Proofs.YtfonajakaimnoaaDoor.Lend
open Go.RowKit Go.Proofs.YtfonajakaimnoaaDoorW.PrintWords Go.Proofs.YtfonajakaimnoaaDoorW.PrintLast Go.Proofs.YtfonajakaimnoaaDoorW.PrintMore Go.Proofs.YtfonajakaimnoaaDoor.Lib Lent Go.Proofs.YtfonajakaimnoaaDoor.Fn Go.Proofs.YtfonajakaimnoaaDoor.C11
set_option linter.unusedVariables false
set_option linter.unusedSimpArgs false
attribute [local go_sem] max2_int min2_int max_two min_two max_three min_three max_four min_four
theorem cut_rows (A : Option Addr) (n c : Nat) (j : Int) (h0 : 0 ≤ j) (hj : j ≤ (c : Int)) (W : World) : (Instr.slice 22 (.slice A n c) none (some (.int .i64 j)) none).run Tryd.prog W = .ok (.slice A j.toNat c) W := by
 obtain ⟨i, hi, _⟩ := Option.map_eq_some_iff.1 info25
 have hel : Tryd.prog.elem 22 = 25 := by simp [Program.elem, Tryd.underlying22]
 have hu : Tryd.prog.underlying 22 = some (.slice (Tryd.prog.elem 22)) := by rw [hel]; exact Tryd.underlying22
 have ha : (A.map fun x => x.add 0) = A := by cases A <;> simp [Addr.add]
 rw [run_slice_h W 22 A n c hu .i64 j h0 hj, hel]
 simp [sizeOf, typeInfo, hi, sliced, ha, Result.andThen]
theorem one_mark {W : World} {base : Nat} (hb : base ≤ W.heap.size) : Kd.R kI 3 (W.alloc (.cells #[.int .i64 (-77)] 3)) base (fun k => k = W.heap.size) (.slice (some ⟨W.heap.size, 0, none⟩) 1 1) [-77] :=
 ⟨fun k hk => by simpa [Value.ownBlock] using hk.symm, [.int .i64 (-77)], ⟨rfl, .inr ⟨W.heap.size, 1, #[.int .i64 (-77)], rfl, hb, heap_alloc_new _ _, by decide, by simp [maxLen], rfl, rfl⟩⟩, by
  refine ⟨rfl, fun j p hj => ?_⟩
  cases j with
  | zero =>
   simp only [List.getElem?_cons_zero, Option.some.injEq] at hj
   subst hj
   rfl
  | succ j => simp at hj⟩
theorem marked_rows {w : World} {base : Nat} {v : Value} {L : LL} (h : Kd.S kM 25 w base (fun _ => True) v (withMarks L ++ [([-77], [])])) :
  ∃ A c m, v = .slice A m c ∧ Kd.S kM 25 w base (fun _ => True) (.slice A (rowsM L).length c) (rowsM L) ∧ ∀ W : World, (Instr.slice 22 (.slice A m c) none (some (.int .i64 L.length)) none).run Tryd.prog W = .ok (.slice A L.length c) W := by
 obtain ⟨A, c, rfl⟩ := Kd.S_slice h
 have hle := (Kd.S_reads' h).2.1
 simp only [List.length_append, List.length_map, List.length_singleton] at hle
 refine ⟨A, c, _, rfl, h, fun W => ?_⟩
 have := cut_rows A (withMarks L ++ [([-77], [])]).length c (L.length : Int) (by omega) (by omega) W
 rwa [Int.toNat_natCast] at this
set_option maxHeartbeats 2000000 in
set_option maxRecDepth 10000 in
theorem rows_calls (A0 : Option Addr) (c0 : Nat) (L : LL) (w : World) (h0 : Kd.C kL w A0 L.length L) (hL : L.length ≤ 5864062014634) (hLr : ∀ l ∈ L, l.length ≤ 17592186043904) :
  Calls Tryd.prog 70 #[.slice A0 L.length c0] w fun e w' => ∃ A c, e = .returned (.slice A L.length c) ∧ Kd.S kM 25 w' w.heap.size (fun _ => True) (.slice A (rowsM L).length c) (rowsM L) ∧ Below w.heap.size w w' := by
 have hu := Tryd.underlying22
 have H0 := Aside0.mk h0
 have HLr := Aside0.mk hLr
 have hb1 := C_bound h0
 clear h0 hLr
 go_enter Tryd.func70, Tryd.ntmps70
 go_wp2_with fail
 go_loopg [3, 4] L.length (fun gg v3 v4 wr => ∃ (kk : Nat), kk ≤ L.length ∧ L.length - kk ≤ gg ∧ v4 = .int .i64 kk ∧ Aside0 (Kd.S kM 25 wr w.heap.size (fun _ => True) v3 (withMarks (L.take kk))) ∧ Aside0 (Below w.heap.size w wr))
 case atStart => exact ⟨0, Nat.zero_le _, by omega, rfl, ⟨Kd.S_nil _ _ _ _ _⟩, ⟨Below.refl _ _⟩⟩
 case round =>
  obtain ⟨kk, hkk, hg, rfl, HS, HB⟩ := hrel
  by_cases hlt : kk < L.length
  ·have hltz : (kk : Int) < (L.length : Int) := by omega
   obtain ⟨ad, A5, c5, rfl, hcell', h5, h6⟩ := list_at H0.out kk L[kk] (List.getElem?_eq_getElem hlt)
   have hcell := pw_cell_below HB.out hcell'
   have hx : Aside0 (L[kk].length ≤ 17592186043904) := ⟨HLr.out _ (List.getElem_mem hlt)⟩
   have hsn : Aside0 (withMarks (L.take kk) ++ [(L[kk], [-77, -77])] = withMarks (L.take (kk + 1))) := ⟨by show List.map _ _ ++ _ = List.map _ _; rw [List.take_add_one, List.getElem?_eq_getElem hlt, List.map_append]; rfl⟩
   generalize L[kk] = x at hcell hcell' h5 h6 hx hsn
   have H6 := Aside0.mk (And.intro h5 h6)
   clear h5 h6 hcell'
   go_wp2_with fail
   refine (list_calls A5 c5 x wr (Kd.C_below H6.out.2 HB.out) H6.out.1 hx.out).mono ?_
   rintro e wm ⟨A6, c6, rfl, ho, hb⟩
   have HX := Aside0.mk (And.intro (Kd.R_base ho) (Kd.R_lower (Kd.R_tight rfl ho) HB.out.size))
   have HV := Aside0.mk (Kd.S_lt HS.out)
   have HO := Aside0.mk (Kd.S_old HS.out hb)
   replace HB := Aside0.mk (below_step HB.out hb)
   clear HS ho hb
   go_wp2_with ((with_reducible refine gate_builtin (b := .append) (xs := #[.tmp 17, .tmp 19]) rfl ?_); at_builtin; refine Kd.S_append kM (w0 := w) w.heap.size rfl (.tmp 17) (.tmp 19) 22 25 (.slice none 0 0) 24 rfl Tryd.underlying22 info25 rfl (by decide) (by omega) _ (withMarks (L.take kk)) (x, [-77, -77]) [.slice A6 x.length c6] (fun _ => True) (fun k => some k = (Value.slice A6 (marks x).length c6).ownBlock) rfl rfl ?aP ?aK (fun _ _ => trivial) ?aO ?aB ?aS ?aL ?_; (case aP => exact ⟨A6, c6, rfl, HX.out.2⟩); (case aK => exact fun k hk => ⟨trivial, fun he => by have := HX.out.1 k hk.symm; have := HV.out k he.symm; omega⟩); (case aO => exact Kd.S_mono HO.out (fun k hk => ⟨trivial, fun he => by have := HX.out.1 k he.symm; have := hk.2; omega⟩)); (case aB => exact HB.out); (case aS => exact HB.out.size); (case aL => simp only [List.length_map, List.length_take]; omega); intro vz wz hoz hbz hgz hatz; have HS2 := Aside0.mk hoz; have HB2 := Aside0.mk hbz; clear hoz hbz hgz hatz)
   go_roundg (L.length - (kk + 1))
   case measure => omega
   case rel => exact ⟨kk + 1, by omega, by omega, by go_num, ⟨by rw [← hsn.out]; exact HS2.out⟩, HB2⟩
  ·have hltz : ¬ (kk : Int) < (L.length : Int) := by omega
   obtain rfl : L.length = kk := by omega
   rw [List.take_length] at HS
   have HV := Aside0.mk (Kd.S_lt HS.out)
   go_wp2_with ((with_reducible refine gate_builtin (b := .append) (xs := #[.tmp 21, .tmp 23]) rfl ?_); at_builtin; refine Kd.S_append kM (w0 := w) w.heap.size rfl (.tmp 21) (.tmp 23) 22 25 (.slice none 0 0) 24 rfl Tryd.underlying22 info25 rfl (by decide) (by omega) _ (withMarks L) ([-77], []) [.slice (some ⟨wr.heap.size, 0, none⟩) 1 1] (fun _ => True) (fun k => k = wr.heap.size) rfl (by show Value.slice (some ⟨wr.heap.size + 1, 0, none⟩) 1 1 = _; simp) ?aP ?aK (fun _ _ => trivial) ?aO ?aB ?aS ?aL ?_; (case aP => exact ⟨_, _, rfl, one_mark HB.out.size⟩); (case aK => exact fun k hk => ⟨trivial, fun he => by have := HV.out k he.symm; omega⟩); (case aO => exact Kd.S_mono (Kd.S_old HS.out (below_alloc (Below.refl _ _) _)) (fun k hk => ⟨trivial, fun he => by have := hk.2; omega⟩)); (case aB => exact below_alloc HB.out _); (case aS => exact (by have := HB.out.size; simp; omega)); (case aL => simp only [List.length_map]; omega); intro vz wz hoz hbz hgz hatz; obtain ⟨Az, cz, mz, e1, HO2, hcut⟩ := marked_rows hoz; subst e1; have HS2 := Aside0.mk HO2; have HB2 := Aside0.mk hbz; clear HO2 hoz hbz hgz hatz)
   go_ret
   exact ⟨Az, cz, rfl, by have h := HS2.out; rw [rowsM_length] at h; exact h, HB2.out⟩
end Go.Proofs.YtfonajakaimnoaaDoor.Lend

namespace Go.Proofs.YtfonajakaimnoaaDoor.C13
open Go.RowKit Go.Proofs.YtfonajakaimnoaaDoorW.PrintWords Go.Proofs.YtfonajakaimnoaaDoorW.PrintLast Go.Proofs.YtfonajakaimnoaaDoorW.PrintMore Go.Proofs.YtfonajakaimnoaaDoor.Lib Lent Go.Proofs.YtfonajakaimnoaaDoor.Fn Go.Proofs.YtfonajakaimnoaaDoor.C11 Go.Proofs.YtfonajakaimnoaaDoor.Lend
set_option linter.unusedVariables false
set_option linter.unusedSimpArgs false
attribute [local go_sem] max2_int min2_int max_two min_two max_three min_three max_four min_four
abbrev mk64 : List Int := List.replicate 64 (-77)
abbrev withM (L : LL) : List (List Int × List Int) := L.map fun l => (l, mk64)
abbrev tailM : List (List Int × List Int) := List.replicate 64 ([-78], [])
abbrev rows64 (L : LL) : List (List Int × List Int) := withM L ++ tailM
theorem rows64_length (L : LL) : (rows64 L).length = L.length + 64 := by simp
theorem one_lit {W : World} (x : Int) : Kd.C kI (W.alloc (.cells #[.int .i64 x] 3)) (some ⟨W.heap.size, 0, none⟩) 1 [x] :=
 ⟨rfl, by decide, fun _ => ⟨_, rfl, fun j p hj => by
  rcases j with _ | j
  ·simp at hj
   subst hj
   refine ⟨_, rfl, rfl, fun i u hu => ?_⟩
   cases i with
   | zero =>
    simp only [List.getElem?_cons_zero, Option.some.injEq] at hu
    subst hu
    show (W.alloc _).cell? ⟨W.heap.size, 0, none⟩ = _
    go_simp
   | succ i => simp at hu
  ·simp at hj⟩⟩
theorem one_row {W : World} {base : Nat} (hb : base ≤ W.heap.size) (x : Int) : Kd.R kI 3 (W.alloc (.cells #[.int .i64 x] 3)) base (fun k => k = W.heap.size) (.slice (some ⟨W.heap.size, 0, none⟩) 1 1) [x] :=
 ⟨fun k hk => by simpa [Value.ownBlock] using hk.symm, [.int .i64 x], ⟨rfl, .inr ⟨W.heap.size, 1, #[.int .i64 x], rfl, hb, heap_alloc_new _ _, Nat.le_refl _, by simp [maxLen], rfl, rfl⟩⟩, by
  refine ⟨rfl, fun j p hj => ?_⟩
  cases j with
  | zero =>
   simp only [List.getElem?_cons_zero, Option.some.injEq] at hj
   subst hj
   rfl
  | succ j => simp at hj⟩
theorem cut_row64 {w : World} {base : Nat} {ok : Nat → Prop} {v : Value} {l : List Int} (h : Kd.R kI 3 w base ok v (l ++ mk64)) :
  ∃ A c m, v = .slice A m c ∧ Kd.R kI 3 w base ok (.slice A (l ++ mk64).length c) (l ++ mk64) ∧ ∀ W : World, (Instr.slice 25 (.slice A m c) none (some (.int .i64 l.length)) none).run Tryd.prog W = .ok (.slice A l.length c) W := by
 obtain ⟨A, c, e1, hle, _⟩ := Kd.R_reads h
 have hm : (l ++ mk64).length = l.length + 64 := by simp
 refine ⟨A, c, _, e1, by rw [← e1]; exact h, fun W => ?_⟩
 have := cut_past A (l ++ mk64).length c (l.length : Int) (by omega) (by omega) W
 rwa [Int.toNat_natCast] at this
theorem cut_rows64 {w : World} {base : Nat} {ok : Nat → Prop} {v : Value} {L : LL} (h : Kd.S kM 25 w base ok v (rows64 L)) :
  ∃ A c m, v = .slice A m c ∧ Kd.S kM 25 w base ok (.slice A (rows64 L).length c) (rows64 L) ∧ ∀ W : World, (Instr.slice 22 (.slice A m c) none (some (.int .i64 L.length)) none).run Tryd.prog W = .ok (.slice A L.length c) W := by
 obtain ⟨A, c, rfl⟩ := Kd.S_slice h
 have hle := (Kd.S_reads' h).2.1
 rw [rows64_length] at hle
 refine ⟨A, c, _, rfl, h, fun W => ?_⟩
 have := cut_rows A (rows64 L).length c (L.length : Int) (by omega) (by omega) W
 rwa [Int.toNat_natCast] at this
theorem snoc_mark (l : List Int) (x : Int) (k : Nat) : (l ++ List.replicate k x) ++ [x] = l ++ List.replicate (k + 1) x := by
 rw [List.append_assoc, List.replicate_succ']
theorem snoc_row {α : Type} (l : List α) (x : α) (k : Nat) : (l ++ List.replicate k x) ++ [x] = l ++ List.replicate (k + 1) x := by
 rw [List.append_assoc, List.replicate_succ']
set_option maxHeartbeats 4000000 in
set_option maxRecDepth 10000 in
theorem rows_calls (A0 : Option Addr) (c0 : Nat) (L : LL) (w : World) (h0 : Kd.C kL w A0 L.length L) (hL : L.length ≤ 5000000000000) (hLr : ∀ l ∈ L, l.length ≤ 17000000000000) :
  Calls Tryd.prog 63 #[.slice A0 L.length c0] w fun e w' => ∃ A c, e = .returned (.slice A L.length c) ∧ Kd.S kM 25 w' w.heap.size (fun _ => True) (.slice A (rows64 L).length c) (rows64 L) ∧ Below w.heap.size w w' := by
 have hu := Tryd.underlying22
 have H0 := Aside0.mk h0
 have HLr := Aside0.mk hLr
 have hb1 := C_bound h0
 clear h0 hLr
 go_enter Tryd.func63, Tryd.ntmps63
 go_wp2_with fail
 go_loopg [3, 4, 5, 6] L.length (fun gg v3 v4 _ _ wr => ∃ (kk : Nat), kk ≤ L.length ∧ L.length - kk ≤ gg ∧ v4 = .int .i64 kk ∧ Aside0 (Kd.S kM 25 wr w.heap.size (fun _ => True) v3 (withM (L.take kk))) ∧ Aside0 (Below w.heap.size w wr))
 case atStart => exact ⟨0, Nat.zero_le _, by omega, rfl, ⟨Kd.S_nil _ _ _ _ _⟩, ⟨Below.refl _ _⟩⟩
 case round =>
  obtain ⟨kk, hkk, hg, rfl, HS, HB⟩ := hrel
  obtain ⟨wo, rfl⟩ : ∃ wo : World, wo = wr := ⟨_, rfl⟩
  by_cases hlt : kk < L.length
  ·have hltz : (kk : Int) < (L.length : Int) := by omega
   obtain ⟨ad, A5, c5, rfl, hcell', h5, h6⟩ := list_at H0.out kk L[kk] (List.getElem?_eq_getElem hlt)
   have hcell := pw_cell_below HB.out hcell'
   have hx : Aside0 (L[kk].length ≤ 17000000000000) := ⟨HLr.out _ (List.getElem_mem hlt)⟩
   have hsn : Aside0 (withM (L.take kk) ++ [(L[kk], mk64)] = withM (L.take (kk + 1))) := ⟨by show List.map _ _ ++ _ = List.map _ _; rw [List.take_add_one, List.getElem?_eq_getElem hlt, List.map_append]; rfl⟩
   generalize L[kk] = x at hcell hcell' h5 h6 hx hsn
   have H6 := Aside0.mk (And.intro h5 h6)
   have HC := Aside0.mk hcell
   clear h5 h6 hcell'
   go_wp2_with ((with_reducible refine gate_builtin (b := .append) (xs := #[.tmp 14, .tmp 18]) rfl ?_); at_builtin; refine Kd.R_append_rows kI (w0 := wo) wo.heap.size rfl (.tmp 14) (.tmp 18) 25 3 (.int .i64 0) 8 rfl Tryd.underlying25 info3 rfl (by decide) (by omega) (.slice none 0 0) ([] : List Int) x _ _ _ (fun _ => True) (fun _ => False) rfl rfl ?aO ?aR (fun _ _ h => h) (fun _ h => h.elim) ?aF ?aB ?aS ?aL ?_; (case aR => exact Kd.C_below H6.out.2 HB.out); (case aB => exact Below.refl _ _); (case aF => exact (fun _ _ => trivial)); (case aO => exact Kd.R_nil _ _ _ _ _); (case aS => exact Nat.le_refl _); (case aL => have := hx.out; simp; omega); intro v5 w5 hoz hbz hgz hatz; rw [List.nil_append] at hoz; have HR := Aside0.mk hoz; have HB5 := Aside0.mk hbz; clear hoz hbz hgz hatz)
   go_loopg [5, 6] 64 (fun gg v5 v6 wq => ∃ (k : Nat), k ≤ 64 ∧ 64 - k ≤ gg ∧ v6 = .int .i64 k ∧ Aside0 (Kd.R kI 3 wq wo.heap.size (fun _ => True) v5 (x ++ List.replicate k (-77))) ∧ Aside0 (Below wo.heap.size wo wq))
   case atStart => exact ⟨0, by omega, by omega, rfl, ⟨by rw [List.replicate_zero, List.append_nil]; exact HR.out⟩, HB5⟩
   case round =>
    clear HR HB5
    obtain ⟨k, hk, hg2, rfl, HR, HB5⟩ := hrel
    by_cases hlt2 : k < 64
    ·have hltz2 : (k : Int) < 64 := by omega
     go_wp2_with ((with_reducible refine gate_builtin (b := .append) (xs := #[.tmp 24, .tmp 25]) rfl ?_); at_builtin; refine Kd.R_append_rows kI (w0 := wo) wo.heap.size rfl (.tmp 24) (.tmp 25) 25 3 (.int .i64 0) 8 rfl Tryd.underlying25 info3 rfl (by decide) (by omega) _ (x ++ List.replicate k (-77)) [-77] _ _ _ (fun _ => True) (fun _ => False) rfl rfl ?aO ?aR (fun _ _ h => h) (fun _ h => h.elim) ?aF ?aB ?aS ?aL ?_; (case aR => exact one_lit _); (case aB => exact below_alloc HB5.out _); (case aF => exact (fun _ _ => trivial)); (case aO => exact Kd.R_alloc HR.out _); (case aS => exact (below_alloc HB5.out _).size); (case aL => have := hx.out; simp; omega); intro vz wz hoz hbz hgz hatz; rw [snoc_mark] at hoz; have HR2 := Aside0.mk hoz; have HB6 := Aside0.mk hbz; clear hoz hbz hgz hatz)
     go_roundg (64 - (k + 1))
     case measure => omega
     case rel => exact ⟨k + 1, by omega, by omega, by go_num, HR2, HB6⟩
    ·have hltz2 : ¬ (k : Int) < 64 := by omega
     obtain rfl : k = 64 := by omega
     obtain ⟨A6, c6, m6, rfl, ho, hcut⟩ := cut_row64 HR.out
     have HX := Aside0.mk (And.intro (Kd.R_base ho) (Kd.R_lower (Kd.R_tight rfl ho) HB.out.size))
     have HV := Aside0.mk (Kd.S_lt HS.out)
     have HO := Aside0.mk (Kd.S_old HS.out HB5.out)
     have HB6 := Aside0.mk (below_step HB.out HB5.out)
     have hcell := pw_cell_below HB5.out HC.out
     clear ho HR
     go_wp2_with ((with_reducible refine gate_builtin (b := .append) (xs := #[.tmp 27, .tmp 35]) rfl ?_); at_builtin; refine Kd.S_append kM (w0 := w) w.heap.size rfl (.tmp 27) (.tmp 35) 22 25 (.slice none 0 0) 24 rfl Tryd.underlying22 info25 rfl (by decide) (by omega) _ (withM (L.take kk)) (x, mk64) [.slice A6 x.length c6] (fun _ => True) (fun k => some k = (Value.slice A6 (x ++ mk64).length c6).ownBlock) rfl rfl ?aP ?aK (fun _ _ => trivial) ?aO ?aB ?aS ?aL ?_; (case aP => exact ⟨A6, c6, rfl, HX.out.2⟩); (case aK => exact fun k hk => ⟨trivial, fun he => by have := HX.out.1 k hk.symm; have := HV.out k he.symm; omega⟩); (case aO => exact Kd.S_mono HO.out (fun k hk => ⟨trivial, fun he => by have := HX.out.1 k he.symm; have := hk.2; omega⟩)); (case aB => exact HB6.out); (case aS => exact HB6.out.size); (case aL => simp only [List.length_map, List.length_take]; omega); intro vz wz hoz hbz hgz hatz; have HS2 := Aside0.mk hoz; have HB2 := Aside0.mk hbz; clear hoz hbz hgz hatz)
     go_roundg (L.length - (kk + 1))
     case measure => omega
     case rel => exact ⟨kk + 1, by omega, by omega, by go_num, ⟨by rw [← hsn.out]; exact HS2.out⟩, HB2⟩
  ·have hltz : ¬ (kk : Int) < (L.length : Int) := by omega
   obtain rfl : L.length = kk := by omega
   rw [List.take_length] at HS
   go_wp2_with fail
   go_loopg [3, 7] 64 (fun gg v3 v7 wq => ∃ (k : Nat), k ≤ 64 ∧ 64 - k ≤ gg ∧ v7 = .int .i64 k ∧ Aside0 (Kd.S kM 25 wq w.heap.size (fun _ => True) v3 (withM L ++ List.replicate k ([-78], []))) ∧ Aside0 (Below w.heap.size w wq))
   case atStart => exact ⟨0, by omega, by omega, rfl, ⟨by rw [List.replicate_zero, List.append_nil]; exact HS.out⟩, HB⟩
   case round =>
    clear HS HB
    obtain ⟨k, hk, hg2, rfl, HS, HB⟩ := hrel
    by_cases hlt2 : k < 64
    ·have hltz2 : (k : Int) < 64 := by omega
     have HV := Aside0.mk (Kd.S_lt HS.out)
     go_wp2_with ((with_reducible refine gate_builtin (b := .append) (xs := #[.tmp 41, .tmp 43]) rfl ?_); at_builtin; refine Kd.S_append kM (w0 := w) w.heap.size rfl (.tmp 41) (.tmp 43) 22 25 (.slice none 0 0) 24 rfl Tryd.underlying22 info25 rfl (by decide) (by omega) _ (withM L ++ List.replicate k ([-78], [])) ([-78], []) [.slice (some ⟨wr.heap.size, 0, none⟩) 1 1] (fun _ => True) (fun k => k = wr.heap.size) rfl (by show Value.slice (some ⟨wr.heap.size + 1, 0, none⟩) 1 1 = _; simp) ?aP ?aK (fun _ _ => trivial) ?aO ?aB ?aS ?aL ?_; (case aP => exact ⟨_, _, rfl, one_row HB.out.size _⟩); (case aK => exact fun k hk => ⟨trivial, fun he => by have := HV.out k he.symm; omega⟩); (case aO => exact Kd.S_mono (Kd.S_old HS.out (below_alloc (Below.refl _ _) _)) (fun k hk => ⟨trivial, fun he => by have := hk.2; omega⟩)); (case aB => exact below_alloc HB.out _); (case aS => exact (by have := HB.out.size; simp; omega)); (case aL => simp only [List.length_append, List.length_replicate, List.length_map]; omega); intro vz wz hoz hbz hgz hatz; rw [snoc_row] at hoz; have HS2 := Aside0.mk hoz; have HB2 := Aside0.mk hbz; clear hoz hbz hgz hatz)
     go_roundg (64 - (k + 1))
     case measure => omega
     case rel => exact ⟨k + 1, by omega, by omega, by go_num, HS2, HB2⟩
    ·have hltz2 : ¬ (k : Int) < 64 := by omega
     obtain rfl : k = 64 := by omega
     obtain ⟨Az, cz, mz, rfl, ho, hcut⟩ := cut_rows64 HS.out
     have HS2 := Aside0.mk ho
     clear ho HS
     go_wp2_with fail
     go_ret
     exact ⟨Az, cz, rfl, by have h := HS2.out; rw [rows64_length] at h; exact h, HB.out⟩
end Go.Proofs.YtfonajakaimnoaaDoor.C13

namespace Go.Proofs.YtfonajakaimnoaaDoor.Lib
open Go.RowKit Go.Proofs.YtfonajakaimnoaaDoorW.PrintWords Go.Proofs.YtfonajakaimnoaaDoorW.PrintLast Go.Proofs.YtfonajakaimnoaaDoorW.PrintMore
attribute [local go_sem] max2_int min2_int max_two min_two max_three min_three max_four min_four   -- for this text's walks alone
set_option linter.unusedVariables false
set_option linter.unusedSimpArgs false
def caesuraref0_SameInts.l0 : Nat → List Int → List Int → Int → Option (Bool)
 | 0, _, _, _ => none
 | k + 1, x0, x1, x5 => if x5 < (x0.length : Int) then (if 0 ≤ x5 then (if x5 < (x1.length : Int) then (if (rd x0 x5) = (rd x1 x5) then (caesuraref0_SameInts.l0 k x0 x1 (wrap64 (x5 + 1))) else (some false)) else (none)) else (none)) else (some true)
def caesuraref0_SameInts.f (k : Nat) (l0 : List Int) (l1 : List Int) : Option (Bool) := if (l0.length : Int) = (l1.length : Int) then (caesuraref0_SameInts.l0 k l0 l1 0) else (some false)
set_option maxHeartbeats 8000000 in
set_option maxRecDepth 100000 in
theorem caesuraref0_SameInts.calls (k : Nat) (A0 : Option Addr) (c0 : Nat) (l0 : List Int) (A1 : Option Addr) (c1 : Nat) (l1 : List Int) (r : Bool) (w : World) (hr0 : Kd.C (Kd.int .i64) w A0 l0.length l0) (hc0 : l0.length ≤ c0) (hr1 : Kd.C (Kd.int .i64) w A1 l1.length l1) (hc1 : l1.length ≤ c1) (h : caesuraref0_SameInts.f k l0 l1 = some r) :
  Calls Tryd.prog 16 #[.slice A0 l0.length c0, .slice A1 l1.length c1] w fun e w' => e = .returned (.bool r) ∧ Drawn0 w w' := by
 have HR0 := Aside0.mk hr0
 have HC0 := Aside0.mk hc0
 clear hr0 hc0
 have HR1 := Aside0.mk hr1
 have HC1 := Aside0.mk hc1
 clear hr1 hc1
 have H : (if (l0.length : Int) = (l1.length : Int) then (caesuraref0_SameInts.l0 k l0 l1 0) else (some false)) = some r := h
 clear h
 by_cases c3 : (l0.length : Int) = (l1.length : Int)
 ·rw [if_pos c3] at H
  have c3b0 : ((l0.length : Int) == (l1.length : Int)) = true := beq_iff_eq.mpr c3
  have c3b1 : ((l0.length : Int) != (l1.length : Int)) = false := bne_eq_false_iff_eq.mpr c3
  have c3b2 : (l0.length == l1.length) = true := by first | simpa using c3 | (simp at c3 ⊢; omega)
  clear c3
  have H' := Aside0.mk H
  clear H
  go_enter Tryd.func16, Tryd.ntmps16
  go_wp2
  repeat (go_quiet (fail); try go_wp2)
  go_loopg [5] k (fun kq v5 w' => ∃ (x5_1 : Int), v5 = .int .i64 x5_1 ∧ Aside0 (caesuraref0_SameInts.l0 kq l0 l1 x5_1 = some r) ∧ Aside0 (kq ≤ k) ∧ Drawn0 w w')
  case atStart => exact ⟨(0), (by first | rfl | (simp; done) | (simp [*]; done)), H', ⟨Nat.le_refl _⟩, by repeat (first | exact Drawn0.refl _ | apply Drawn0.step)⟩
  case round =>
   clear H'
   try clear c1
   try clear p2
   try clear c3
   try clear c3b0
   try clear c3b1
   try clear c3b2
   obtain ⟨x5_1, rfl, HA, HK1, ⟨m1, rfl⟩⟩ := hrel
   cases gk with
   | zero => exact absurd HA.out (by simp [caesuraref0_SameInts.l0])
   | succ k1 =>
    have H := HA.out
    clear HA
    simp only [caesuraref0_SameInts.l0] at H
    by_cases c4 : x5_1 < (l0.length : Int)
    ·rw [if_pos c4] at H
     have c4b0 : decide (x5_1 < (l0.length : Int)) = true := decide_eq_true c4
     clear c4
     by_cases c5 : 0 ≤ x5_1
     ·rw [if_pos c5] at H
      have c5b0 : decide (0 ≤ x5_1) = true := decide_eq_true c5
      clear c5
      by_cases c6 : x5_1 < (l1.length : Int)
      ·rw [if_pos c6] at H
       have c6b0 : decide (x5_1 < (l1.length : Int)) = true := decide_eq_true c6
       clear c6
       by_cases c7 : (rd l0 x5_1) = (rd l1 x5_1)
       ·rw [if_pos c7] at H
        have c7b0 : ((rd l0 x5_1) == (rd l1 x5_1)) = true := beq_iff_eq.mpr c7
        have c7b1 : ((rd l0 x5_1) != (rd l1 x5_1)) = false := bne_eq_false_iff_eq.mpr c7
        clear c7
        have H' := Aside0.mk H
        clear H
        have p150 : 0 ≤ (x5_1 : Int) := of_decide_eq_true (by first | (with_reducible assumption) | assumption)
        have q150 : x5_1 < (l0.length : Int) := of_decide_eq_true (by first | (with_reducible assumption) | assumption)
        obtain ⟨ad150, e150, hx150_0⟩ := Kd.at_int HR0.out x5_1 p150 q150
        cases e150
        replace p150 := eq_true p150
        replace q150 := eq_true q150
        have p151 : 0 ≤ (x5_1 : Int) := of_decide_eq_true (by first | (with_reducible assumption) | assumption)
        have q151 : x5_1 < (l1.length : Int) := of_decide_eq_true (by first | (with_reducible assumption) | assumption)
        obtain ⟨ad151, e151, hx151_0⟩ := Kd.at_int HR1.out x5_1 p151 q151
        cases e151
        replace p151 := eq_true p151
        replace q151 := eq_true q151
        go_wp2
        repeat (go_quiet (fail); try go_wp2)
        go_roundg k1
        case measure => have := HK1.out; omega
        case rel => exact ⟨(wrap64 (x5_1 + 1)), (by first | rfl | (simp; done) | (simp [*]; done)), H', ⟨by have := HK1.out; omega⟩, by repeat (first | exact Drawn0.refl _ | apply Drawn0.step)⟩
       ·rw [if_neg c7] at H
        have c7b0 : ((rd l0 x5_1) == (rd l1 x5_1)) = false := beq_eq_false_iff_ne.mpr c7
        have c7b1 : ((rd l0 x5_1) != (rd l1 x5_1)) = true := bne_iff_ne.mpr c7
        obtain rfl := Option.some.inj H
        have p150 : 0 ≤ (x5_1 : Int) := of_decide_eq_true (by first | (with_reducible assumption) | assumption)
        have q150 : x5_1 < (l0.length : Int) := of_decide_eq_true (by first | (with_reducible assumption) | assumption)
        obtain ⟨ad150, e150, hx150_0⟩ := Kd.at_int HR0.out x5_1 p150 q150
        cases e150
        replace p150 := eq_true p150
        replace q150 := eq_true q150
        have p151 : 0 ≤ (x5_1 : Int) := of_decide_eq_true (by first | (with_reducible assumption) | assumption)
        have q151 : x5_1 < (l1.length : Int) := of_decide_eq_true (by first | (with_reducible assumption) | assumption)
        obtain ⟨ad151, e151, hx151_0⟩ := Kd.at_int HR1.out x5_1 p151 q151
        cases e151
        replace p151 := eq_true p151
        replace q151 := eq_true q151
        go_wp2
        repeat (go_quiet (fail); try go_wp2)
        go_ret
        exact ⟨by first | rfl | (simp; done) | (simp [*]; done), by repeat (first | exact Drawn0.refl _ | apply Drawn0.step)⟩
      ·rw [if_neg c6] at H
       exact absurd H (by simp)
     ·rw [if_neg c5] at H
      exact absurd H (by simp)
    ·rw [if_neg c4] at H
     have c4b0 : decide (x5_1 < (l0.length : Int)) = false := decide_eq_false c4
     clear c4
     obtain rfl := Option.some.inj H
     go_wp2
     repeat (go_quiet (fail); try go_wp2)
     go_ret
     exact ⟨by first | rfl | (simp; done) | (simp [*]; done), by repeat (first | exact Drawn0.refl _ | apply Drawn0.step)⟩
 ·rw [if_neg c3] at H
  have c3b0 : ((l0.length : Int) == (l1.length : Int)) = false := beq_eq_false_iff_ne.mpr c3
  have c3b1 : ((l0.length : Int) != (l1.length : Int)) = true := bne_iff_ne.mpr c3
  have c3b2 : (l0.length == l1.length) = false := by first | simpa using c3 | (simp at c3 ⊢; omega)
  obtain rfl := Option.some.inj H
  go_enter Tryd.func16, Tryd.ntmps16
  go_wp2
  repeat (go_quiet (fail); try go_wp2)
  go_ret
  exact ⟨by first | rfl | (simp; done) | (simp [*]; done), by repeat (first | exact Drawn0.refl _ | apply Drawn0.step)⟩
end Go.Proofs.YtfonajakaimnoaaDoor.Lib

namespace Go.Proofs.YtfonajakaimnoaaDoor.Lib
open Go.RowKit Go.Proofs.YtfonajakaimnoaaDoorW.PrintWords Go.Proofs.YtfonajakaimnoaaDoorW.PrintLast Go.Proofs.YtfonajakaimnoaaDoorW.PrintMore
attribute [local go_sem] max2_int min2_int max_two min_two max_three min_three max_four min_four   -- for this text's walks alone
set_option linter.unusedVariables false
set_option linter.unusedSimpArgs false
def caesuraref0_SameRows.l0 : Nat → List (List Int) → List (List Int) → Int → Option (Bool)
 | 0, _, _, _ => none
 | k + 1, x0, x1, x5 => if x5 < (x0.length : Int) then (if 0 ≤ x5 then (if x5 < (x1.length : Int) then ((caesuraref0_SameInts.f k (rd_L1 x0 x5) (rd_L1 x1 x5)).bind fun t154 => (if t154 = true then (caesuraref0_SameRows.l0 k x0 x1 (wrap64 (x5 + 1))) else (some false))) else (none)) else (none)) else (some true)
def caesuraref0_SameRows.f (k : Nat) (l0 : List (List Int)) (l1 : List (List Int)) : Option (Bool) := if (l0.length : Int) = (l1.length : Int) then (caesuraref0_SameRows.l0 k l0 l1 0) else (some false)
set_option maxHeartbeats 8000000 in
set_option maxRecDepth 100000 in
theorem caesuraref0_SameRows.calls (k : Nat) (A0 : Option Addr) (c0 : Nat) (l0 : List (List Int)) (A1 : Option Addr) (c1 : Nat) (l1 : List (List Int)) (r : Bool) (w : World) (hr0 : Kd.C (Kd.slice 3 (Kd.int .i64)) w A0 l0.length l0) (hc0 : l0.length ≤ c0) (hr1 : Kd.C (Kd.slice 3 (Kd.int .i64)) w A1 l1.length l1) (hc1 : l1.length ≤ c1) (h : caesuraref0_SameRows.f k l0 l1 = some r) :
  Calls Tryd.prog 83 #[.slice A0 l0.length c0, .slice A1 l1.length c1] w fun e w' => e = .returned (.bool r) ∧ Drawn0 w w' := by
 have HR0 := Aside0.mk hr0
 have HC0 := Aside0.mk hc0
 clear hr0 hc0
 have HR1 := Aside0.mk hr1
 have HC1 := Aside0.mk hc1
 clear hr1 hc1
 have H : (if (l0.length : Int) = (l1.length : Int) then (caesuraref0_SameRows.l0 k l0 l1 0) else (some false)) = some r := h
 clear h
 by_cases c3 : (l0.length : Int) = (l1.length : Int)
 ·rw [if_pos c3] at H
  have c3b0 : ((l0.length : Int) == (l1.length : Int)) = true := beq_iff_eq.mpr c3
  have c3b1 : ((l0.length : Int) != (l1.length : Int)) = false := bne_eq_false_iff_eq.mpr c3
  have c3b2 : (l0.length == l1.length) = true := by first | simpa using c3 | (simp at c3 ⊢; omega)
  clear c3
  have H' := Aside0.mk H
  clear H
  go_enter Tryd.func83, Tryd.ntmps83
  go_wp2
  repeat (go_quiet (fail); try go_wp2)
  go_loopg [5] k (fun kq v5 w' => ∃ (x5_1 : Int), v5 = .int .i64 x5_1 ∧ Aside0 (caesuraref0_SameRows.l0 kq l0 l1 x5_1 = some r) ∧ Aside0 (kq ≤ k) ∧ Drawn0 w w')
  case atStart => exact ⟨(0), (by first | rfl | (simp; done) | (simp [*]; done)), H', ⟨Nat.le_refl _⟩, by repeat (first | exact Drawn0.refl _ | apply Drawn0.step)⟩
  case round =>
   clear H'
   try clear c1
   try clear p2
   try clear c3
   try clear c3b0
   try clear c3b1
   try clear c3b2
   obtain ⟨x5_1, rfl, HA, HK1, ⟨m1, rfl⟩⟩ := hrel
   cases gk with
   | zero => exact absurd HA.out (by simp [caesuraref0_SameRows.l0])
   | succ k1 =>
    have H := HA.out
    clear HA
    simp only [caesuraref0_SameRows.l0] at H
    by_cases c4 : x5_1 < (l0.length : Int)
    ·rw [if_pos c4] at H
     have c4b0 : decide (x5_1 < (l0.length : Int)) = true := decide_eq_true c4
     clear c4
     by_cases c5 : 0 ≤ x5_1
     ·rw [if_pos c5] at H
      have c5b0 : decide (0 ≤ x5_1) = true := decide_eq_true c5
      clear c5
      by_cases c6 : x5_1 < (l1.length : Int)
      ·rw [if_pos c6] at H
       have c6b0 : decide (x5_1 < (l1.length : Int)) = true := decide_eq_true c6
       clear c6
       replace H := Option.bind_eq_some_iff.mp H
       obtain ⟨t154, A70, H⟩ := H
       replace H : (if t154 = true then (caesuraref0_SameRows.l0 k1 l0 l1 (wrap64 (x5_1 + 1))) else (some false)) = some r := H
       have A7 := Aside0.mk A70
       clear A70
       by_cases c8 : t154 = true
       ·subst c8
        have H1 : (caesuraref0_SameRows.l0 k1 l0 l1 (wrap64 (x5_1 + 1))) = some r := by rw [if_pos rfl] at H; exact H
        clear H
        have H := H1
        clear H1
        have H' := Aside0.mk H
        clear H
        have p152 : 0 ≤ (x5_1 : Int) := of_decide_eq_true (by first | (with_reducible assumption) | assumption)
        have q152 : x5_1 < (l0.length : Int) := of_decide_eq_true (by first | (with_reducible assumption) | assumption)
        obtain ⟨ad152, A152_0, c152_0, e152, hx152_0, hl152_0, hi152_0⟩ := at_L1 HR0.out x5_1 p152 q152
        cases e152
        have HR152_0 := Aside0.mk hi152_0
        have HC152_0 := Aside0.mk hl152_0
        clear hi152_0 hl152_0
        replace p152 := eq_true p152
        replace q152 := eq_true q152
        have p153 : 0 ≤ (x5_1 : Int) := of_decide_eq_true (by first | (with_reducible assumption) | assumption)
        have q153 : x5_1 < (l1.length : Int) := of_decide_eq_true (by first | (with_reducible assumption) | assumption)
        obtain ⟨ad153, A153_0, c153_0, e153, hx153_0, hl153_0, hi153_0⟩ := at_L1 HR1.out x5_1 p153 q153
        cases e153
        have HR153_0 := Aside0.mk hi153_0
        have HC153_0 := Aside0.mk hl153_0
        clear hi153_0 hl153_0
        replace p153 := eq_true p153
        replace q153 := eq_true q153
        go_wp2_with (first | (go_at_call 16; (with_reducible refine (caesuraref0_SameInts.calls k1 _ _ (rd_L1 l0 x5_1) _ _ (rd_L1 l1 x5_1) true _ ?side1 ?side2 ?side3 ?side4 A7.out).mono ?_); (case side1 => repeat (first | exact HR152_0.out | (with_reducible refine Kd.C_alloc ?_ _) | (with_reducible refine Kd.C_drewN ?_ _) | (with_reducible refine Kd.C_drew ?_))); (case side2 => exact HC152_0.out); (case side3 => repeat (first | exact HR153_0.out | (with_reducible refine Kd.C_alloc ?_ _) | (with_reducible refine Kd.C_drewN ?_ _) | (with_reducible refine Kd.C_drew ?_))); (case side4 => exact HC153_0.out); rintro e w' ⟨rfl, ⟨nd, rfl⟩⟩; (try first | exact ⟨rfl, _, World.drewN_drewN _ _ _⟩ | exact ⟨rfl, _, Eq.trans (World.drewN_drewN _ _ _) (congrArg (World.drewN _) (Nat.add_assoc _ _ _))⟩)))
        repeat (go_quiet (first | (go_at_call 16; (with_reducible refine (caesuraref0_SameInts.calls k1 _ _ (rd_L1 l0 x5_1) _ _ (rd_L1 l1 x5_1) true _ ?side1 ?side2 ?side3 ?side4 A7.out).mono ?_); (case side1 => repeat (first | exact HR152_0.out | (with_reducible refine Kd.C_alloc ?_ _) | (with_reducible refine Kd.C_drewN ?_ _) | (with_reducible refine Kd.C_drew ?_))); (case side2 => exact HC152_0.out); (case side3 => repeat (first | exact HR153_0.out | (with_reducible refine Kd.C_alloc ?_ _) | (with_reducible refine Kd.C_drewN ?_ _) | (with_reducible refine Kd.C_drew ?_))); (case side4 => exact HC153_0.out); rintro e w' ⟨rfl, ⟨nd, rfl⟩⟩; (try first | exact ⟨rfl, _, World.drewN_drewN _ _ _⟩ | exact ⟨rfl, _, Eq.trans (World.drewN_drewN _ _ _) (congrArg (World.drewN _) (Nat.add_assoc _ _ _))⟩))); try go_wp2_with (first | (go_at_call 16; (with_reducible refine (caesuraref0_SameInts.calls k1 _ _ (rd_L1 l0 x5_1) _ _ (rd_L1 l1 x5_1) true _ ?side1 ?side2 ?side3 ?side4 A7.out).mono ?_); (case side1 => repeat (first | exact HR152_0.out | (with_reducible refine Kd.C_alloc ?_ _) | (with_reducible refine Kd.C_drewN ?_ _) | (with_reducible refine Kd.C_drew ?_))); (case side2 => exact HC152_0.out); (case side3 => repeat (first | exact HR153_0.out | (with_reducible refine Kd.C_alloc ?_ _) | (with_reducible refine Kd.C_drewN ?_ _) | (with_reducible refine Kd.C_drew ?_))); (case side4 => exact HC153_0.out); rintro e w' ⟨rfl, ⟨nd, rfl⟩⟩; (try first | exact ⟨rfl, _, World.drewN_drewN _ _ _⟩ | exact ⟨rfl, _, Eq.trans (World.drewN_drewN _ _ _) (congrArg (World.drewN _) (Nat.add_assoc _ _ _))⟩))))
        go_roundg k1
        case measure => have := HK1.out; omega
        case rel => exact ⟨(wrap64 (x5_1 + 1)), (by first | rfl | (simp; done) | (simp [*]; done)), H', ⟨by have := HK1.out; omega⟩, by repeat (first | exact Drawn0.refl _ | apply Drawn0.step)⟩
       ·replace c8 := Bool.eq_false_iff.mpr c8
        subst c8
        have H1 : (some false) = some r := by rw [if_neg (show ¬ (false = true) by decide)] at H; exact H
        clear H
        have H := H1
        clear H1
        obtain rfl := Option.some.inj H
        have p152 : 0 ≤ (x5_1 : Int) := of_decide_eq_true (by first | (with_reducible assumption) | assumption)
        have q152 : x5_1 < (l0.length : Int) := of_decide_eq_true (by first | (with_reducible assumption) | assumption)
        obtain ⟨ad152, A152_0, c152_0, e152, hx152_0, hl152_0, hi152_0⟩ := at_L1 HR0.out x5_1 p152 q152
        cases e152
        have HR152_0 := Aside0.mk hi152_0
        have HC152_0 := Aside0.mk hl152_0
        clear hi152_0 hl152_0
        replace p152 := eq_true p152
        replace q152 := eq_true q152
        have p153 : 0 ≤ (x5_1 : Int) := of_decide_eq_true (by first | (with_reducible assumption) | assumption)
        have q153 : x5_1 < (l1.length : Int) := of_decide_eq_true (by first | (with_reducible assumption) | assumption)
        obtain ⟨ad153, A153_0, c153_0, e153, hx153_0, hl153_0, hi153_0⟩ := at_L1 HR1.out x5_1 p153 q153
        cases e153
        have HR153_0 := Aside0.mk hi153_0
        have HC153_0 := Aside0.mk hl153_0
        clear hi153_0 hl153_0
        replace p153 := eq_true p153
        replace q153 := eq_true q153
        go_wp2_with (first | (go_at_call 16; (with_reducible refine (caesuraref0_SameInts.calls k1 _ _ (rd_L1 l0 x5_1) _ _ (rd_L1 l1 x5_1) false _ ?side1 ?side2 ?side3 ?side4 A7.out).mono ?_); (case side1 => repeat (first | exact HR152_0.out | (with_reducible refine Kd.C_alloc ?_ _) | (with_reducible refine Kd.C_drewN ?_ _) | (with_reducible refine Kd.C_drew ?_))); (case side2 => exact HC152_0.out); (case side3 => repeat (first | exact HR153_0.out | (with_reducible refine Kd.C_alloc ?_ _) | (with_reducible refine Kd.C_drewN ?_ _) | (with_reducible refine Kd.C_drew ?_))); (case side4 => exact HC153_0.out); rintro e w' ⟨rfl, ⟨nd, rfl⟩⟩; (try first | exact ⟨rfl, _, World.drewN_drewN _ _ _⟩ | exact ⟨rfl, _, Eq.trans (World.drewN_drewN _ _ _) (congrArg (World.drewN _) (Nat.add_assoc _ _ _))⟩)))
        repeat (go_quiet (first | (go_at_call 16; (with_reducible refine (caesuraref0_SameInts.calls k1 _ _ (rd_L1 l0 x5_1) _ _ (rd_L1 l1 x5_1) false _ ?side1 ?side2 ?side3 ?side4 A7.out).mono ?_); (case side1 => repeat (first | exact HR152_0.out | (with_reducible refine Kd.C_alloc ?_ _) | (with_reducible refine Kd.C_drewN ?_ _) | (with_reducible refine Kd.C_drew ?_))); (case side2 => exact HC152_0.out); (case side3 => repeat (first | exact HR153_0.out | (with_reducible refine Kd.C_alloc ?_ _) | (with_reducible refine Kd.C_drewN ?_ _) | (with_reducible refine Kd.C_drew ?_))); (case side4 => exact HC153_0.out); rintro e w' ⟨rfl, ⟨nd, rfl⟩⟩; (try first | exact ⟨rfl, _, World.drewN_drewN _ _ _⟩ | exact ⟨rfl, _, Eq.trans (World.drewN_drewN _ _ _) (congrArg (World.drewN _) (Nat.add_assoc _ _ _))⟩))); try go_wp2_with (first | (go_at_call 16; (with_reducible refine (caesuraref0_SameInts.calls k1 _ _ (rd_L1 l0 x5_1) _ _ (rd_L1 l1 x5_1) false _ ?side1 ?side2 ?side3 ?side4 A7.out).mono ?_); (case side1 => repeat (first | exact HR152_0.out | (with_reducible refine Kd.C_alloc ?_ _) | (with_reducible refine Kd.C_drewN ?_ _) | (with_reducible refine Kd.C_drew ?_))); (case side2 => exact HC152_0.out); (case side3 => repeat (first | exact HR153_0.out | (with_reducible refine Kd.C_alloc ?_ _) | (with_reducible refine Kd.C_drewN ?_ _) | (with_reducible refine Kd.C_drew ?_))); (case side4 => exact HC153_0.out); rintro e w' ⟨rfl, ⟨nd, rfl⟩⟩; (try first | exact ⟨rfl, _, World.drewN_drewN _ _ _⟩ | exact ⟨rfl, _, Eq.trans (World.drewN_drewN _ _ _) (congrArg (World.drewN _) (Nat.add_assoc _ _ _))⟩))))
        go_ret
        exact ⟨by first | rfl | (simp; done) | (simp [*]; done), by repeat (first | exact Drawn0.refl _ | apply Drawn0.step)⟩
      ·rw [if_neg c6] at H
       exact absurd H (by simp)
     ·rw [if_neg c5] at H
      exact absurd H (by simp)
    ·rw [if_neg c4] at H
     have c4b0 : decide (x5_1 < (l0.length : Int)) = false := decide_eq_false c4
     clear c4
     obtain rfl := Option.some.inj H
     go_wp2
     repeat (go_quiet (fail); try go_wp2)
     go_ret
     exact ⟨by first | rfl | (simp; done) | (simp [*]; done), by repeat (first | exact Drawn0.refl _ | apply Drawn0.step)⟩
 ·rw [if_neg c3] at H
  have c3b0 : ((l0.length : Int) == (l1.length : Int)) = false := beq_eq_false_iff_ne.mpr c3
  have c3b1 : ((l0.length : Int) != (l1.length : Int)) = true := bne_iff_ne.mpr c3
  have c3b2 : (l0.length == l1.length) = false := by first | simpa using c3 | (simp at c3 ⊢; omega)
  obtain rfl := Option.some.inj H
  go_enter Tryd.func83, Tryd.ntmps83
  go_wp2
  repeat (go_quiet (fail); try go_wp2)
  go_ret
  exact ⟨by first | rfl | (simp; done) | (simp [*]; done), by repeat (first | exact Drawn0.refl _ | apply Drawn0.step)⟩
end Go.Proofs.YtfonajakaimnoaaDoor.Lib

namespace Go.Proofs.YtfonajakaimnoaaDoor.C11
open Go.RowKit Go.Proofs.YtfonajakaimnoaaDoorW.PrintWords Go.Proofs.YtfonajakaimnoaaDoorW.PrintLast Go.Proofs.YtfonajakaimnoaaDoorW.PrintMore Go.Proofs.YtfonajakaimnoaaDoor.Lib Lent Go.Proofs.YtfonajakaimnoaaDoor.Fn
set_option linter.unusedVariables false
set_option linter.unusedSimpArgs false
theorem sameInts_loop (l : List Int) (hl : l.length ≤ 9223372036854775807) : ∀ (d i k : Nat), i ≤ l.length → l.length - i = d → d < k → caesuraref0_SameInts.l0 k l l i = some true := by
 intro d
 induction d with
 | zero =>
  intro i k hi hd hk
  obtain ⟨k, rfl⟩ : ∃ m, k = m + 1 := ⟨k - 1, by omega⟩
  simp only [caesuraref0_SameInts.l0]
  rw [if_neg (by omega)]
 | succ d ih =>
  intro i k hi hd hk
  obtain ⟨k, rfl⟩ : ∃ m, k = m + 1 := ⟨k - 1, by omega⟩
  have hw : wrap64 ((i : Int) + 1) = ((i + 1 : Nat) : Int) := by rw [wrap_succ (n := l.length) (by omega) (by omega) (by omega)]; omega
  simp only [caesuraref0_SameInts.l0]
  rw [if_pos (by omega), if_pos (by omega), if_pos (by omega), hw]
  simp only [if_true]
  exact ih (i + 1) k (by omega) (by omega) (by omega)
theorem sameInts_ev (l : List Int) (hl : l.length ≤ 9223372036854775807) : Ev (fun k => caesuraref0_SameInts.f k l l) true :=
 ⟨l.length + 1, fun k hk => by
  show caesuraref0_SameInts.f k l l = some true
  unfold caesuraref0_SameInts.f
  rw [if_pos rfl]
  exact sameInts_loop l hl l.length 0 k (by omega) (by omega) (by omega)⟩
theorem sameRows_loop (l : LL) (hl : l.length ≤ 9223372036854775807) (hr : ∀ x ∈ l, x.length ≤ 9223372036854775807) : ∀ (d i : Nat), i ≤ l.length → l.length - i = d → Ev (fun k => caesuraref0_SameRows.l0 k l l i) true := by
 intro d
 induction d with
 | zero =>
  intro i hi hd
  refine Ev.step (f := fun _ => some true) (fun k => ?_) (Ev.now _)
  simp only [caesuraref0_SameRows.l0]
  rw [if_neg (by omega)]
 | succ d ih =>
  intro i hi hd
  have hw : wrap64 ((i : Int) + 1) = ((i + 1 : Nat) : Int) := by rw [wrap_succ (n := l.length) (by omega) (by omega) (by omega)]; omega
  have hrow : (rd_L1 l (i : Int)).length ≤ 9223372036854775807 := by
   unfold rd_L1
   rw [List.getD_eq_getElem?_getD]
   cases h : l[((i : Int)).toNat]? with
   | none => simp
   | some y => exact hr y (List.mem_of_getElem? h)
  refine Ev.step (f := fun k => (caesuraref0_SameInts.f k (rd_L1 l i) (rd_L1 l i)).bind fun t => if t = true then caesuraref0_SameRows.l0 k l l ((i + 1 : Nat) : Int) else some false) (fun k => ?_) (Ev.bind (sameInts_ev _ hrow) (Ev.congr (fun k => if_pos rfl) (ih (i + 1) (by omega) (by omega))))
  conv => lhs; unfold caesuraref0_SameRows.l0
  rw [if_pos (by omega), if_pos (by omega), if_pos (by omega), hw]
theorem sameRows_ev (l : LL) (hl : l.length ≤ 9223372036854775807) (hr : ∀ x ∈ l, x.length ≤ 9223372036854775807) : Ev (fun k => caesuraref0_SameRows.f k l l) true :=
 Ev.congr (fun k => by unfold caesuraref0_SameRows.f; rw [if_pos rfl]; rfl) (sameRows_loop l hl hr l.length 0 (by omega) (by omega))
end Go.Proofs.YtfonajakaimnoaaDoor.C11

namespace Go.Proofs.YtfonajakaimnoaaDoor.C13
open Go.RowKit Go.Proofs.YtfonajakaimnoaaDoorW.PrintWords Go.Proofs.YtfonajakaimnoaaDoorW.PrintLast Go.Proofs.YtfonajakaimnoaaDoorW.PrintMore Go.Proofs.YtfonajakaimnoaaDoor.Lib Lent Go.Proofs.YtfonajakaimnoaaDoor.Fn Go.Proofs.YtfonajakaimnoaaDoor.C11 Go.Proofs.YtfonajakaimnoaaDoor.Lend
set_option linter.unusedVariables false
set_option linter.unusedSimpArgs false
attribute [local go_sem] max2_int min2_int max_two min_two max_three min_three max_four min_four
theorem rows_bnd {W : World} {A : Option Addr} {X : LL} (h : Kd.C kL W A X.length X) : ∀ x ∈ X, x.length ≤ 9223372036854775807 := fun x hx => by
 obtain ⟨j, hj, rfl⟩ := List.getElem_of_mem hx
 obtain ⟨_, _, _, _, _, _, hC⟩ := Fn.list_at h j _ (List.getElem?_eq_getElem hj)
 exact Lent.C_bound hC
theorem sameRows_c {A B : Option Addr} {c d : Nat} {L : LL} {w : World} (h : Kd.C kL w A L.length L) (hc : L.length ≤ c) (h' : Kd.C kL w B L.length L) (hd : L.length ≤ d) :
  Calls Tryd.prog 83 #[.slice A L.length c, .slice B L.length d] w fun e w' => e = .returned (.bool true) ∧ Below w.heap.size w w' := by
 obtain ⟨k, hk⟩ := (sameRows_ev L (C_bound h) (rows_bnd h)).rounds
 refine (caesuraref0_SameRows.calls k A c L B d L true w h hc h' hd hk).mono ?_
 rintro e w1 ⟨rfl, ⟨⟨n, rfl⟩⟩⟩
 exact ⟨rfl, pw_below_drewN (Below.refl _ _) n⟩
theorem row64_C {w : World} {A : Option Addr} {L : LL} (h : kM.C w A (rows64 L).length (rows64 L)) : Kd.C kL w A L.length L := by
 have := lent_C (C_pre h)
 rw [List.map_map, show (L.map ((fun x => x.1) ∘ fun l => (l, mk64))) = L from by
  conv => rhs; rw [← List.map_id L]
  rfl] at this
 exact this
theorem rows64_get {L : LL} {k : Nat} (h : k < L.length) : (rows64 L)[k]? = some (L[k], mk64) := by
 rw [List.getElem?_append_left (by simpa using h), List.getElem?_map, List.getElem?_eq_getElem h]
 rfl
theorem rows64_tail {L : LL} {k : Nat} (h : L.length ≤ k) (h2 : k < L.length + 64) : (rows64 L)[k]? = some ([-78], []) := by
 rw [List.getElem?_append_right (by simpa using h), List.length_map, List.getElem?_replicate, if_pos (by omega)]
theorem mark64_at {x : List Int} {k : Nat} (h : x.length ≤ k) (h2 : k < x.length + 64) : (x ++ mk64)[k]? = some (-77) := by
 rw [List.getElem?_append_right h, List.getElem?_replicate, if_pos (by omega)]
set_option maxHeartbeats 4000000 in
set_option maxRecDepth 10000 in
theorem still_calls (A : Option Addr) (c : Nat) (A0 : Option Addr) (c0 : Nat) (L : LL) (w : World) (hr : kM.C w A (rows64 L).length (rows64 L)) (hc : (rows64 L).length ≤ c) (h0 : Kd.C kL w A0 L.length L) (hc0 : L.length ≤ c0) (hL : L.length ≤ 5000000000000) (hLr : ∀ l ∈ L, l.length ≤ 17000000000000) :
  Calls Tryd.prog 67 #[.slice A L.length c, .slice A0 L.length c0] w fun e w' => e = .returned (.bool true) ∧ Below w.heap.size w w' := by
 have hu := Tryd.underlying22
 have hm := rows64_length L
 have HR := Aside0.mk hr
 have HLr := Aside0.mk hLr
 have hcut := cut_rows A L.length c ((L.length : Int) + 64) (by omega) (by omega)
 have e2 : ((L.length : Int) + 64).toNat = L.length + 64 := by omega
 rw [e2] at hcut
 have HS := Aside0.mk (sameRows_c (row64_C hr) (by omega : L.length ≤ c) h0 hc0)
 clear hr hLr hm hc e2 h0 hc0
 go_enter Tryd.func67, Tryd.ntmps67
 go_wp2_with fail
 refine HS.out.mono ?_
 rintro e w1 ⟨rfl, hb⟩
 have HB := Aside0.mk hb
 clear hb HS
 go_wp2_with fail
 go_loopg [6, 7, 8] L.length (fun gg v6 _ _ wr => ∃ (kk : Nat), kk ≤ L.length ∧ L.length - kk ≤ gg ∧ v6 = .int .i64 kk ∧ Aside0 (Below w.heap.size w wr))
 case atStart => exact ⟨0, Nat.zero_le _, by omega, rfl, HB⟩
 case round =>
  clear HB
  obtain ⟨kk, hkk, hg, rfl, HB⟩ := hrel
  obtain ⟨wo, rfl⟩ : ∃ wo : World, wo = wr := ⟨_, rfl⟩
  by_cases hlt : kk < L.length
  ·have hltz : (kk : Int) < (L.length : Int) := by omega
   obtain ⟨ad, A5, c5, rfl, hcell', h5, h6⟩ := rowM_at HR.out kk (L[kk], mk64) (rows64_get hlt)
   have hcell : wo.cell? (ad.add kk) = some (.slice A5 L[kk].length c5) := pw_cell_below HB.out hcell'
   have hx : Aside0 (L[kk].length ≤ 17000000000000) := ⟨HLr.out _ (List.getElem_mem hlt)⟩
   have H6 : Aside0 ((L[kk] ++ mk64).length ≤ c5 ∧ Kd.C kI w A5 (L[kk] ++ mk64).length (L[kk] ++ mk64)) := ⟨⟨h5, h6⟩⟩
   generalize L[kk] = x at hcell hx H6
   clear h5 h6 hcell'
   have hxl : (x ++ mk64).length = x.length + 64 := by simp
   have hcx := cut_past A5 x.length c5 ((x.length : Int) + 64) (by omega) (by have := H6.out.1; omega)
   have e2 : ((x.length : Int) + 64).toNat = x.length + 64 := by omega
   rw [e2] at hcx
   have hxb := hx.out
   clear e2
   go_wp2_with fail
   repeat (go_quiet (fail); try go_wp2)
   go_loopg [8] 64 (fun gg v8 wq => ∃ (k : Nat), x.length ≤ k ∧ k ≤ x.length + 64 ∧ x.length + 64 - k ≤ gg ∧ v8 = .int .i64 k ∧ Aside0 (Below w.heap.size w wq))
   case atStart => exact ⟨x.length, by omega, by omega, by omega, rfl, ⟨by repeat (first | exact HB.out | apply pw_below_drewN | apply below_drew1)⟩⟩
   case round =>
    clear HB
    obtain ⟨k, hk0, hk, hg2, rfl, HB⟩ := hrel
    by_cases hlt2 : k < x.length + 64
    ·have hltz2 : (k : Int) < ((x.length + 64 : Nat) : Int) := by omega
     obtain ⟨a5, rfl, hm'⟩ := int_at H6.out.2 k (-77) (mark64_at hk0 hlt2)
     have hmk := pw_cell_below HB.out hm'
     clear hm'
     go_wp2_with fail
     go_roundg (x.length + 64 - (k + 1))
     case measure => omega
     case rel => exact ⟨k + 1, by omega, by omega, by omega, by go_num, HB⟩
    ·have hltz2 : ¬ (k : Int) < ((x.length + 64 : Nat) : Int) := by omega
     go_wp2_with fail
     go_roundg (L.length - (kk + 1))
     case measure => omega
     case rel => exact ⟨kk + 1, by omega, by omega, by go_num, HB⟩
  ·have hltz : ¬ (kk : Int) < (L.length : Int) := by omega
   go_wp2_with fail
   go_loopg [10] 64 (fun gg v10 wq => ∃ (k : Nat), L.length ≤ k ∧ k ≤ L.length + 64 ∧ L.length + 64 - k ≤ gg ∧ v10 = .int .i64 k ∧ Aside0 (Below w.heap.size w wq))
   case atStart => exact ⟨L.length, by omega, by omega, by omega, rfl, HB⟩
   case round =>
    clear HB
    obtain ⟨k, hk0, hk, hg2, rfl, HB⟩ := hrel
    by_cases hlt2 : k < L.length + 64
    ·have hltz2 : (k : Int) < ((L.length + 64 : Nat) : Int) := by omega
     obtain ⟨ad, A5, c5, rfl, hcell', h5, h6⟩ := rowM_at HR.out k ([-78], []) (rows64_tail hk0 hlt2)
     obtain ⟨a5, rfl, hm'⟩ := int_at h6 0 (-78) rfl
     have hcell : wr.cell? (ad.add k) = some (.slice (some a5) 1 c5) := pw_cell_below HB.out hcell'
     have hmk : wr.cell? (a5.add 0) = some (.int .i64 (-78)) := pw_cell_below HB.out hm'
     have hmk' : wr.cell? a5 = some (.int .i64 (-78)) := by simpa [Addr.add] using hmk
     clear hcell' hm' h5 h6
     go_wp2_with fail
     go_roundg (L.length + 64 - (k + 1))
     case measure => omega
     case rel => exact ⟨k + 1, by omega, by omega, by omega, by go_num, HB⟩
    ·have hltz2 : ¬ (k : Int) < ((L.length + 64 : Nat) : Int) := by omega
     go_wp2_with fail
     go_ret
     exact ⟨rfl, HB.out⟩
end Go.Proofs.YtfonajakaimnoaaDoor.C13

namespace Go.Proofs.YtfonajakaimnoaaDoor.Lib
open Go.RowKit
def errI (eA : Value) (r : Int) : Value := if r = 0 then .nilIface else eA
end Go.Proofs.YtfonajakaimnoaaDoor.Lib

namespace Go.Proofs.YtfonajakaimnoaaDoor.C11
open Go.RowKit Go.Proofs.YtfonajakaimnoaaDoorW.PrintWords Go.Proofs.YtfonajakaimnoaaDoorW.PrintLast Go.Proofs.YtfonajakaimnoaaDoorW.PrintMore Go.Proofs.YtfonajakaimnoaaDoor.Lib Lent Go.Proofs.YtfonajakaimnoaaDoor.Fn Go.Shelf
set_option linter.unusedVariables false
set_option linter.unusedSimpArgs false
attribute [local go_sem] max2_int min2_int max_two min_two max_three min_three max_four min_four
structure RB (w : World) (s : Nat) (A0 A1 A2 A3 : Value) (b : Bool) (W : World) : Prop where
 below : Below s w W
 old : W.heap[s]? = some (.cells #[A0, A1, A2, A3, .bool b] 42 (0, 0))
 res : W.heap[s + 1]? = some (.cells #[.slice none 0 0, .slice none 0 0, .slice none 0 0, .slice none 0 0, .bool false] 42 (0, 0))
end Go.Proofs.YtfonajakaimnoaaDoor.C11

namespace Go.Proofs.YtfonajakaimnoaaDoor.C14
open Go.RowKit Go.Proofs.YtfonajakaimnoaaDoorW.PrintWords Go.Proofs.YtfonajakaimnoaaDoorW.PrintLast Go.Proofs.YtfonajakaimnoaaDoorW.PrintMore Go.Proofs.YtfonajakaimnoaaDoor.Lib Lent Go.Proofs.YtfonajakaimnoaaDoor.Fn Go.Proofs.YtfonajakaimnoaaDoor.C11
set_option linter.unusedVariables false
set_option linter.unusedSimpArgs false
def inB (n : Nat) (x : Int) : Bool := !(decide (x < 0)) && !(decide (x ≥ (n : Int)))
def rowB (n : Nat) (sy pt : Int) (p : List Int × List Int) : Bool := decide ((p.1.length : Int) = sy) && (p.1.all (inB n) && risesB pt (-1) p.2)
def headB (s : Int) (N O : LL) (sy pt : Int) : Bool :=
 if sy < 1 then true else if sy > 16384 then true else if pt < 0 then true else if (N.length : Int) < 1 then true else if (N.length : Int) > 16384 then true else
  if (O.length : Int) = (N.length : Int) then (if wrap64 ((N.length : Int) * sy) > 4194304 then true else if s < 0 then true else decide (s ≥ (N.length : Int))) else true
theorem wsucc {i n : Nat} (h : i < n) (hn : n ≤ 9223372036854775807) : wrap64 ((i : Int) + 1) = ((i + 1 : Nat) : Int) := by
 rw [wrap_succ (n := n) (by omega) (by omega) hn]
 omega
end Go.Proofs.YtfonajakaimnoaaDoor.C14

namespace Go.Proofs.YtfonajakaimnoaaDoor.Lib
open Go.RowKit Go.Proofs.YtfonajakaimnoaaDoorW.PrintWords Go.Proofs.YtfonajakaimnoaaDoorW.PrintLast Go.Proofs.YtfonajakaimnoaaDoorW.PrintMore
attribute [local go_sem] max2_int min2_int max_two min_two max_three min_three max_four min_four   -- for this text's walks alone
set_option linter.unusedVariables false
set_option linter.unusedSimpArgs false
def slices_Reverse_int_int.l0 : Nat → List Int → Int → Int → Option (List Int)
 | 0, _, _, _ => none
 | k + 1, x0, x2, x3 => if x2 < x3 then (if 0 ≤ x3 then (if x3 < (x0.length : Int) then (if 0 ≤ x2 then (if x2 < (x0.length : Int) then (slices_Reverse_int_int.l0 k ((x0.set (x2 : Int).toNat (rd x0 x3)).set (x3 : Int).toNat (rd x0 x2)) (wrap64 (x2 + 1)) (wrap64 (x3 - 1))) else (none)) else (none)) else (none)) else (none)) else (some x0)
def slices_Reverse_int_int.f (k : Nat) (l0 : List Int) : Option (List Int) := slices_Reverse_int_int.l0 k l0 0 (wrap64 ((l0.length : Int) - 1))
def slices_Reverse_int_int.T3 : Bool × List (List Nat × List Nat) := (true, [([], []), ([], []), ([], []), ([], []), ([], []), ([], []), ([4, 5], [4, 5]), ([6], [6]), ([], []), ([], []), ([8, 9], [8, 9]), ([10], [10]), ([0, 1, 0, 1, 4, 5, 6, 7, 11], [0, 1]), ([12, 7, 0, 1, 4, 5, 6, 7, 11], [7, 12]), ([2, 3, 0, 1, 2, 3, 4, 5, 6, 7, 8, 9, 10, 11, 12, 13], [2, 3]), ([14, 11, 13, 0, 1, 2, 3, 4, 5, 6, 7, 8, 9, 10, 11, 12, 13], [11, 14])])
def slices_Reverse_int_int.B3 : List Nat := [0, 0, 0, 0, 0, 0, 48, 112, 0, 0, 768, 1792, 4083, 8179, 16383, 32767]
theorem slices_Reverse_int_int.tab3 : rtab .any (opsOf Tryd.f95 3) = slices_Reverse_int_int.T3 := by kernel_rfl
theorem slices_Reverse_int_int.bits3 : waitsOk slices_Reverse_int_int.T3.2 slices_Reverse_int_int.B3 = true := by kernel_rfl
set_option maxHeartbeats 8000000 in
set_option maxRecDepth 100000 in
theorem slices_Reverse_int_int.calls (k : Nat) (P0_ : Nat → Prop) (u9000_ : Value) (l0 : List Int) (r : List Int) (w0 w : World) (hB : Below w0.heap.size w0 w) (ho0 : Kd.R (Kd.int .i64) 3 w w0.heap.size P0_ u9000_ l0) (h : slices_Reverse_int_int.f k l0 = some r) :
  Calls Tryd.prog 95 #[u9000_] w fun e w' => e = .returned (.tuple #[]) ∧ Kd.R (Kd.int .i64) 3 w' w0.heap.size (fun k_ => (P0_ k_ ∨ w.heap.size ≤ k_)) u9000_ r ∧ Below w0.heap.size w0 w' ∧ Kept w w' (fun k_ => P0_ k_) := by
 have HO0 := Aside0.mk (show Kd.R (Kd.int .i64) 3 w w0.heap.size (fun k_ => (P0_ k_ ∨ w.heap.size ≤ k_)) u9000_ l0 from Kd.R_mono ho0 (fun k_ hk => (.inl hk)))
 have HK := Aside0.mk (Kept.refl w (fun k_ => P0_ k_))
 have HW0 := Aside0.mk hB.size
 have HB := Aside0.mk hB
 clear hB
 have H : (slices_Reverse_int_int.l0 k l0 0 (wrap64 ((l0.length : Int) - 1))) = some r := h
 clear h
 have H' := Aside0.mk H
 clear H
 obtain ⟨Ao2, co2, eo2⟩ := Kd.R_slice HO0.out
 subst eo2
 go_enter Tryd.func95, Tryd.ntmps95
 go_wp2
 go_loopg [2, 3] k (fun kq v2 v3 w' => ∃ (x0_1 : List Int) (x2_1 : Int) (x3_1 : Int), v2 = .int .i64 x2_1 ∧ v3 = .int .i64 x3_1 ∧ Aside0 (slices_Reverse_int_int.l0 kq x0_1 x2_1 x3_1 = some r) ∧ Aside0 (kq ≤ k) ∧ Aside0 (Kd.R (Kd.int .i64) 3 w' w0.heap.size (fun k_ => (P0_ k_ ∨ w.heap.size ≤ k_)) (.slice Ao2 l0.length co2) x0_1) ∧ Aside0 (Kept w w' (fun k_ => P0_ k_)) ∧ Aside0 (Below w0.heap.size w0 w'))
 case atStart => exact ⟨(l0), (0), (wrap64 ((l0.length : Int) - 1)), (by first | rfl | (simp; done) | (simp [*]; done)), (by first | rfl | (simp; done) | (simp [*]; done)), H', ⟨Nat.le_refl _⟩, ⟨by (with_reducible repeat (first | apply Kd.R_alloc | apply Kd.R_drewN | apply Kd.R_drew)); exact HO0.out⟩, ⟨by repeat (first | (with_reducible first | exact HK.out | apply Kept.alloc | apply Kept.drewN | apply Kept.drew) | exact HK.out)⟩, ⟨by repeat (first | (with_reducible first | exact HB.out | apply below_alloc | apply pw_below_drewN | apply below_drew1) | exact HB.out)⟩⟩
 case round =>
  clear H'
  try clear p2
  obtain ⟨x0_1, x2_1, x3_1, rfl, rfl, HA, HK1, HO_0, HK, HB⟩ := hrel
  have hl0_1 := (Kd.R_reads' HO_0.out).1
  rw [hl0_1] at HO_0
  (try simp only [hl0_1])
  cases gk with
  | zero => exact absurd HA.out (by simp [slices_Reverse_int_int.l0])
  | succ k1 =>
   have H := HA.out
   clear HA
   simp only [slices_Reverse_int_int.l0] at H
   by_cases c3 : x2_1 < x3_1
   ·rw [if_pos c3] at H
    have c3b0 : decide (x2_1 < x3_1) = true := decide_eq_true c3
    clear c3
    by_cases c4 : 0 ≤ x3_1
    ·rw [if_pos c4] at H
     have c4b0 : decide (0 ≤ x3_1) = true := decide_eq_true c4
     clear c4
     by_cases c5 : x3_1 < (x0_1.length : Int)
     ·rw [if_pos c5] at H
      have c5b0 : decide (x3_1 < (x0_1.length : Int)) = true := decide_eq_true c5
      clear c5
      by_cases c6 : 0 ≤ x2_1
      ·rw [if_pos c6] at H
       have c6b0 : decide (0 ≤ x2_1) = true := decide_eq_true c6
       clear c6
       by_cases c7 : x2_1 < (x0_1.length : Int)
       ·rw [if_pos c7] at H
        have c7b0 : decide (x2_1 < (x0_1.length : Int)) = true := decide_eq_true c7
        clear c7
        obtain ⟨y139, hy139⟩ : ∃ y_ : List Int, y_ = (x0_1.set (x2_1 : Int).toNat (rd x0_1 x3_1)) := ⟨_, rfl⟩
        replace H : (slices_Reverse_int_int.l0 k1 (y139.set (x3_1 : Int).toNat (rd x0_1 x2_1)) (wrap64 (x2_1 + 1)) (wrap64 (x3_1 - 1))) = some r := by first | (rw [hy139]; with_reducible exact H) | (have H2_ := (Option.bind_some _ _).symm.trans H; rw [hy139]; with_reducible exact H2_) | (have H2_ := (Option.bind_some _ _).symm.trans H; with_reducible exact H2_) | with_reducible exact H | (rw [hy139]; exact H) | exact H
        have Ny139 := Aside0.mk hy139
        clear hy139
        obtain ⟨y140, hy140⟩ : ∃ y_ : List Int, y_ = (y139.set (x3_1 : Int).toNat (rd x0_1 x2_1)) := ⟨_, rfl⟩
        replace H : (slices_Reverse_int_int.l0 k1 y140 (wrap64 (x2_1 + 1)) (wrap64 (x3_1 - 1))) = some r := by first | (rw [hy140]; with_reducible exact H) | (have H2_ := (Option.bind_some _ _).symm.trans H; rw [hy140]; with_reducible exact H2_) | (have H2_ := (Option.bind_some _ _).symm.trans H; with_reducible exact H2_) | with_reducible exact H | (rw [hy140]; exact H) | exact H
        have Ny140 := Aside0.mk hy140
        clear hy140
        have H' := Aside0.mk H
        clear H
        try go_wp2
        have n0_ := Aside0.mk (Kd.R_drew HO_0.out)
        have n1_ := Aside0.mk (Kept.drew HK.out)
        have n2_ := Aside0.mk (below_drew1 HB.out)
        clear HO_0
        clear HK
        clear HB
        have HO_0 := n0_
        have HK := n1_
        have HB := n2_
        clear n0_ n1_ n2_
        have p137 : 0 ≤ (x3_1 : Int) := of_decide_eq_true (by first | (with_reducible assumption) | assumption)
        have q137 : x3_1 < (x0_1.length : Int) := of_decide_eq_true (by first | (with_reducible assumption) | assumption)
        obtain ⟨ad137, e137, hx137_0⟩ := Kd.at_int (Kd.R_reads' HO_0.out).2.2 x3_1 p137 q137
        cases e137
        replace p137 := eq_true p137
        replace q137 := eq_true q137
        have p138 : 0 ≤ (x2_1 : Int) := of_decide_eq_true (by first | (with_reducible assumption) | assumption)
        have q138 : x2_1 < (x0_1.length : Int) := of_decide_eq_true (by first | (with_reducible assumption) | assumption)
        obtain ⟨ad138, e138, hx138_0⟩ := Kd.at_int (Kd.R_reads' HO_0.out).2.2 x2_1 p138 q138
        obtain rfl : ad137 = ad138 := (by injection e138)
        replace p138 := eq_true p138
        replace q138 := eq_true q138
        have p8 : 0 ≤ (x2_1 : Int) := of_decide_eq_true (by first | (with_reducible assumption) | assumption)
        have q8 : (x2_1 : Int) < ((x0_1.length : Int) : Int) := of_decide_eq_true (by first | (with_reducible assumption) | assumption)
        obtain ⟨go8, co8, eo8, gb8, gl8, cl8, HG8⟩ := Kd.R_form HO_0.out (by omega)
        (first | cases eo8 | (injection eo8 with ea_ en_ ec_; (first | subst ea_ | (injection ea_ with ea_; subst ea_)); subst ec_; clear en_))
        have GB8 := Aside0.mk gb8
        have GG8 := Aside0.mk HG8
        clear gb8 gl8 HG8
        have HMgo8 := Aside0.mk (show (P0_ go8 ∨ w.heap.size ≤ go8) from (HO_0.out.1 _ rfl))
        (first | simp only [add_plain] at hx137_0 | skip)
        (first | simp only [add_plain] at hx138_0 | skip)
        obtain ⟨hx8_0, hf8_0⟩ := Kd.R_celln 0 HO_0.out (x2_1 : Int) p8 q8
        replace p8 := eq_true p8
        replace q8 := eq_true q8
        have HP11 := Kd.R_putn HO_0.out (x2_1 : Int) (rd x0_1 x3_1)
        rw [← Ny139.out] at HP11
        have HQ11 := Aside0.mk HP11
        clear HP11
        have p9 : 0 ≤ (x3_1 : Int) := of_decide_eq_true (by first | (with_reducible assumption) | assumption)
        have q9 : (x3_1 : Int) < ((x0_1.length : Int) : Int) := of_decide_eq_true (by first | (with_reducible assumption) | assumption)
        obtain ⟨hx9_0, hf9_0⟩ := Kd.R_celln 0 HQ11.out (x3_1 : Int) p9 q9
        replace p9 := eq_true p9
        replace q9 := eq_true q9
        have HP12 := Kd.R_putn HQ11.out (x3_1 : Int) (rd x0_1 x2_1)
        rw [← Ny140.out] at HP12
        have HQ12 := Aside0.mk HP12
        clear HP12
        refine start_ (n := 16) (S := fun w' => w'.cell? ⟨go8, (x3_1).toNat, none⟩ = some (.int .i64 (rd x0_1 x3_1)) ∧ w'.cell? ⟨go8, (x2_1).toNat, none⟩ = some (.int .i64 (rd x0_1 x2_1))) (ds := [13, 15]) #[false, false, false, false, false, false, false, false, false, false, false, false, false, false, false, false] (by kernel_rfl) rfl rfl ⟨hx137_0, hx138_0⟩ (fun hHeld => ?_); refine with_tabW slices_Reverse_int_int.tab3 slices_Reverse_int_int.bits3 (fun HT_ HW_ => ?_)
        generalize wr.drew = w10 at HO_0 HK HB GG8 HQ11 HQ12 hf8_0 hf9_0 hx137_0 hx138_0 hx8_0 hx9_0 hHeld ⊢
        refine pure_ (i := 0) (N := some 14) (v := ?_) (a' := ?_) #[true, false, false, false, false, false, false, false, false, false, false, false, false, false, false, false] rfl rfl (any_of HT_.out (by kernel_rfl)) (fun _ _ _ h => h) (Or.inl ⟨by rfl, ?_⟩) ?_ ?_
        rotate_left
        ·intro w'
         go_simp
         with_reducible rfl
        rotate_left
        ·simp only [Act.put, List.setIfInBounds_toArray, List.set_cons_zero, List.set_cons_succ, i64_w, i32_w]
         rfl
        refine pure_ (i := 1) (N := some 15) (v := ?_) (a' := ?_) #[true, true, false, false, false, false, false, false, false, false, false, false, false, false, false, false] rfl rfl (any_of HT_.out (by kernel_rfl)) (fun _ _ _ h => h) (Or.inl ⟨by rfl, ?_⟩) ?_ ?_
        rotate_left
        ·intro w'
         go_simp
         with_reducible rfl
        rotate_left
        ·simp only [Act.put, List.setIfInBounds_toArray, List.set_cons_zero, List.set_cons_succ, i64_w, i32_w]
         rfl
        refine pure_ (i := 2) (N := some 16) (v := ?_) (a' := ?_) #[true, true, true, false, false, false, false, false, false, false, false, false, false, false, false, false] rfl rfl (any_of HT_.out (by kernel_rfl)) (fun _ _ _ h => h) (Or.inl ⟨by rfl, ?_⟩) ?_ ?_
        rotate_left
        ·intro w'
         go_simp
         with_reducible rfl
        rotate_left
        ·simp only [Act.put, List.setIfInBounds_toArray, List.set_cons_zero, List.set_cons_succ, i64_w, i32_w]
         rfl
        refine pure_ (i := 3) (N := some 17) (v := ?_) (a' := ?_) #[true, true, true, true, false, false, false, false, false, false, false, false, false, false, false, false] rfl rfl (any_of HT_.out (by kernel_rfl)) (fun _ _ _ h => h) (Or.inl ⟨by rfl, ?_⟩) ?_ ?_
        rotate_left
        ·intro w'
         go_simp
         with_reducible rfl
        rotate_left
        ·simp only [Act.put, List.setIfInBounds_toArray, List.set_cons_zero, List.set_cons_succ, i64_w, i32_w]
         rfl
        refine pure_ (i := 4) (N := some 18) (v := ?_) (a' := ?_) #[true, true, true, true, true, false, false, false, false, false, false, false, false, false, false, false] rfl rfl (any_of HT_.out (by kernel_rfl)) (fun _ _ _ h => h) (Or.inl ⟨by rfl, ?_⟩) ?_ ?_
        rotate_left
        ·intro w'
         go_simp
         with_reducible rfl
        rotate_left
        ·simp only [Act.put, List.setIfInBounds_toArray, List.set_cons_zero, List.set_cons_succ, i64_w, i32_w]
         rfl
        refine pure_ (i := 5) (N := some 19) (v := ?_) (a' := ?_) #[true, true, true, true, true, true, false, false, false, false, false, false, false, false, false, false] rfl rfl (any_of HT_.out (by kernel_rfl)) (fun _ _ _ h => h) (Or.inl ⟨by rfl, ?_⟩) ?_ ?_
        rotate_left
        ·intro w'
         go_simp
         with_reducible rfl
        rotate_left
        ·simp only [Act.put, List.setIfInBounds_toArray, List.set_cons_zero, List.set_cons_succ, i64_w, i32_w]
         rfl
        refine pure_ (i := 6) (N := some 20) (v := ?_) (a' := ?_) #[true, true, true, true, true, true, true, false, false, false, false, false, false, false, false, false] rfl rfl (any_of HT_.out (by kernel_rfl)) (fun _ _ _ h => h) (Or.inl ⟨by rfl, ?_⟩) ?_ ?_
        rotate_left
        ·intro w'
         go_simp
         with_reducible rfl
        rotate_left
        ·simp only [Act.put, List.setIfInBounds_toArray, List.set_cons_zero, List.set_cons_succ, i64_w, i32_w]
         rfl
        refine pure_ (i := 8) (N := some 22) (v := ?_) (a' := ?_) #[true, true, true, true, true, true, true, false, true, false, false, false, false, false, false, false] rfl rfl (any_of HT_.out (by kernel_rfl)) (fun _ _ _ h => h) (Or.inl ⟨by rfl, ?_⟩) ?_ ?_
        rotate_left
        ·intro w'
         go_simp
         with_reducible rfl
        rotate_left
        ·simp only [Act.put, List.setIfInBounds_toArray, List.set_cons_zero, List.set_cons_succ, i64_w, i32_w]
         rfl
        refine pure_ (i := 9) (N := some 23) (v := ?_) (a' := ?_) #[true, true, true, true, true, true, true, false, true, true, false, false, false, false, false, false] rfl rfl (any_of HT_.out (by kernel_rfl)) (fun _ _ _ h => h) (Or.inl ⟨by rfl, ?_⟩) ?_ ?_
        rotate_left
        ·intro w'
         go_simp
         with_reducible rfl
        rotate_left
        ·simp only [Act.put, List.setIfInBounds_toArray, List.set_cons_zero, List.set_cons_succ, i64_w, i32_w]
         rfl
        refine pure_ (i := 10) (N := some 24) (v := ?_) (a' := ?_) #[true, true, true, true, true, true, true, false, true, true, true, false, false, false, false, false] rfl rfl (any_of HT_.out (by kernel_rfl)) (fun _ _ _ h => h) (Or.inl ⟨by rfl, ?_⟩) ?_ ?_
        rotate_left
        ·intro w'
         go_simp
         with_reducible rfl
        rotate_left
        ·simp only [Act.put, List.setIfInBounds_toArray, List.set_cons_zero, List.set_cons_succ, i64_w, i32_w]
         rfl
        refine take_ (i := 7) (N := some 21) (v := ?_) (a' := ?_) #[true, true, true, true, true, true, true, true, true, true, true, false, false, false, false, false] rfl rfl (take_ofW HT_.out HW_.out (by kernel_rfl)) (fun _ _ _ h => h) (Or.inl ⟨by rfl, ?_⟩) hHeld ?_ ?_
        rotate_left
        ·rintro w' ⟨s0, s1⟩
         go_simp
         with_reducible rfl
        rotate_left
        ·simp only [Act.put, List.setIfInBounds_toArray, List.set_cons_zero, List.set_cons_succ, i64_w, i32_w]
         rfl
        refine take_ (i := 11) (N := some 25) (v := ?_) (a' := ?_) #[true, true, true, true, true, true, true, true, true, true, true, true, false, false, false, false] rfl rfl (take_ofW HT_.out HW_.out (by kernel_rfl)) (fun _ _ _ h => h) (Or.inl ⟨by rfl, ?_⟩) hHeld ?_ ?_
        rotate_left
        ·rintro w' ⟨s0, s1⟩
         go_simp
         with_reducible rfl
        rotate_left
        ·simp only [Act.put, List.setIfInBounds_toArray, List.set_cons_zero, List.set_cons_succ, i64_w, i32_w]
         rfl
        refine pure_ (i := 12) (N := some 26) (v := ?_) (a' := ?_) #[true, true, true, true, true, true, true, true, true, true, true, true, true, false, false, false] rfl rfl (any_of HT_.out (by kernel_rfl)) (fun _ _ _ h => h) (Or.inl ⟨by rfl, ?_⟩) ?_ ?_
        rotate_left
        ·intro w'
         go_simp
         with_reducible rfl
        rotate_left
        ·simp only [Act.put, List.setIfInBounds_toArray, List.set_cons_zero, List.set_cons_succ, i64_w, i32_w]
         rfl
        refine last_ (i := 13) (N := none) #[true, true, true, true, true, true, true, true, true, true, true, true, true, true, false, false] rfl rfl (one_of HT_.out (by kernel_rfl)) (by decide) (fun K hK => ?_)
        refine skip_ (w1 := ?_) (by rfl) rfl ?_ ?_
        rotate_left
        ·go_simp
         rfl
        refine hK.out _ _ ?_
        clear hK K
        refine pure_ (i := 14) (N := some 27) (v := ?_) (a' := ?_) #[true, true, true, true, true, true, true, true, true, true, true, true, true, true, true, false] rfl rfl (any_of HT_.out (by kernel_rfl)) (fun _ _ _ h => h) (Or.inl ⟨by rfl, ?_⟩) ?_ ?_
        rotate_left
        ·intro w'
         go_simp
         with_reducible rfl
        rotate_left
        ·simp only [Act.put, List.setIfInBounds_toArray, List.set_cons_zero, List.set_cons_succ, i64_w, i32_w]
         rfl
        refine last_ (i := 15) (N := none) #[true, true, true, true, true, true, true, true, true, true, true, true, true, true, true, true] rfl rfl (one_of HT_.out (by kernel_rfl)) (by decide) (fun K hK => ?_)
        refine skip_ (w1 := ?_) (by rfl) rfl ?_ ?_
        rotate_left
        ·go_simp
         rfl
        refine hK.out _ _ ?_
        clear hK K
        refine done_ (done_of HT_.out (by kernel_rfl)) ?_
        try go_wp2
        (try simp only [← hl0_1])
        go_roundg k1
        case measure => have := HK1.out; omega
        case rel => exact ⟨(y140), (wrap64 (x2_1 + 1)), (wrap64 (x3_1 - 1)), (by first | rfl | (simp; done) | (simp [*]; done)), (by first | rfl | (simp; done) | (simp [*]; done)), H', ⟨by have := HK1.out; omega⟩, ⟨by (try simp only [hl0_1]); (with_reducible repeat (first | apply Kd.R_alloc | apply Kd.R_drewN | apply Kd.R_drew)); exact HQ12.out⟩, ⟨by repeat (first | (with_reducible first | exact HK.out | apply Kept.alloc | apply Kept.drewN | apply Kept.drew | refine Kept.setCell ?_ HMgo8.out _ | refine Kept.setCell ?_ HMgo8.out _) | exact HK.out)⟩, ⟨by repeat (first | (with_reducible first | exact HB.out | apply below_alloc | apply pw_below_drewN | apply below_drew1 | refine below_set ?_ GB8.out | refine below_set ?_ GB8.out) | exact HB.out)⟩⟩
       ·rw [if_neg c7] at H
        exact absurd H (by simp)
      ·rw [if_neg c6] at H
       exact absurd H (by simp)
     ·rw [if_neg c5] at H
      exact absurd H (by simp)
    ·rw [if_neg c4] at H
     exact absurd H (by simp)
   ·rw [if_neg c3] at H
    have c3b0 : decide (x2_1 < x3_1) = false := decide_eq_false c3
    clear c3
    obtain rfl := Option.some.inj H
    go_wp2
    first | go_end0 | ((try simp only [Exit.inBlock, Exit.then]); refine bodyPost_ret (results_none rfl _ _ _) rfl ?_)
    exact ⟨by first | rfl | (simp [errW_none, errW_some] <;> rfl) | (simp [*, errW_none, errW_some] <;> rfl), (by first | exact (by (with_reducible repeat (first | apply Kd.R_alloc | apply Kd.R_drewN | apply Kd.R_drew)); exact HO_0.out) | (simp only [hl0_1]; exact (by (with_reducible repeat (first | apply Kd.R_alloc | apply Kd.R_drewN | apply Kd.R_drew)); exact HO_0.out))), by repeat (first | (with_reducible first | exact HB.out | apply below_alloc | apply pw_below_drewN | apply below_drew1) | exact HB.out), by repeat (first | (with_reducible first | exact HK.out | apply Kept.alloc | apply Kept.drewN | apply Kept.drew) | exact HK.out)⟩
end Go.Proofs.YtfonajakaimnoaaDoor.Lib

namespace Go.Proofs.YtfonajakaimnoaaDoor.C14
open Go.RowKit Go.Proofs.YtfonajakaimnoaaDoorW.PrintWords Go.Proofs.YtfonajakaimnoaaDoorW.PrintLast Go.Proofs.YtfonajakaimnoaaDoorW.PrintMore Go.Proofs.YtfonajakaimnoaaDoor.Lib Lent Go.Proofs.YtfonajakaimnoaaDoor.Fn Go.Proofs.YtfonajakaimnoaaDoor.C11
set_option linter.unusedVariables false
set_option linter.unusedSimpArgs false
def turnIn (l : List Int) (i : Nat) : List Int := (l.reverse.take i) ++ (l.drop i).take (l.length - 2 * i) ++ l.reverse.drop (l.length - i)
theorem turnIn_zero (l : List Int) : turnIn l 0 = l := by
 simp [turnIn]
theorem turnIn_len (l : List Int) (i : Nat) (h : 2 * i ≤ l.length) : (turnIn l i).length = l.length := by
 simp [turnIn]
 omega
theorem turnIn_get (l : List Int) (i : Nat) (h : 2 * i ≤ l.length) (j : Nat) (hj : j < l.length) : (turnIn l i)[j]? = if j < i ∨ l.length - i ≤ j then l.reverse[j]? else l[j]? := by
 unfold turnIn
 by_cases h1 : j < i
 ·rw [if_pos (.inl h1), List.getElem?_append_left (by simp; omega), List.getElem?_append_left (by simp; omega), List.getElem?_take, if_pos h1]
 ·by_cases h2 : l.length - i ≤ j
  ·rw [if_pos (.inr h2), List.getElem?_append_right (by simp; omega)]
   simp only [List.length_append, List.length_take, List.length_reverse, List.length_drop, List.getElem?_drop]
   congr 1
   omega
  ·rw [if_neg (by omega), List.getElem?_append_left (by simp; omega), List.getElem?_append_right (by simp; omega)]
   simp only [List.length_take, List.length_reverse, List.getElem?_take, List.getElem?_drop]
   rw [if_pos (by omega)]
   congr 1
   omega
theorem turnIn_end (l : List Int) (i : Nat) (h : 2 * i ≤ l.length) (h2 : l.length ≤ 2 * i + 1) : turnIn l i = l.reverse := by
 refine List.ext_getElem? (fun j => ?_)
 by_cases hj : j < l.length
 ·rw [turnIn_get l i h j hj]
  split
  ·rfl
  ·have : j = i := by omega
   subst this
   rw [List.getElem?_reverse hj]
   congr 1
   omega
 ·rw [List.getElem?_eq_none (by rw [turnIn_len l i h]; omega), List.getElem?_eq_none (by simp; omega)]
theorem turnIn_step (l : List Int) (i : Nat) (h : 2 * (i + 1) ≤ l.length) :
  ((turnIn l i).set i (l.getD (l.length - 1 - i) 0)).set (l.length - 1 - i) (l.getD i 0) = turnIn l (i + 1) := by
 have hl := turnIn_len l i (by omega)
 refine List.ext_getElem? (fun j => ?_)
 by_cases hj : j < l.length
 ·rw [turnIn_get l (i + 1) h j hj, List.getElem?_set, List.getElem?_set]
  simp only [List.length_set, hl]
  by_cases e1 : l.length - 1 - i = j
  ·rw [if_pos e1, if_pos (by omega), if_pos (by omega), List.getElem?_reverse hj, List.getD_eq_getElem?_getD, List.getElem?_eq_getElem (by omega)]
   rw [List.getElem?_eq_getElem (by omega)]
   simp only [Option.getD_some]
   congr 2
   omega
  ·rw [if_neg e1]
   by_cases e2 : i = j
   ·rw [if_pos e2, if_pos (by omega), if_pos (by omega), List.getElem?_reverse hj, List.getD_eq_getElem?_getD, List.getElem?_eq_getElem (by omega), List.getElem?_eq_getElem (by omega)]
    simp only [Option.getD_some]
    congr 2
    omega
   ·rw [if_neg e2, turnIn_get l i (by omega) j hj]
    by_cases e3 : j < i ∨ l.length - i ≤ j
    ·rw [if_pos e3, if_pos (by omega)]
    ·rw [if_neg e3, if_neg (by omega)]
 ·rw [List.getElem?_eq_none (by simp only [List.length_set, hl]; omega), List.getElem?_eq_none (by rw [turnIn_len l (i + 1) h]; omega)]
theorem rd_getD (l : List Int) (i : Nat) : rd l (i : Int) = l.getD i 0 := rfl
theorem turnIn_mid (l : List Int) (i j : Nat) (h : 2 * i ≤ l.length) (hj : j < l.length) (h1 : i ≤ j) (h2 : j < l.length - i) : rd (turnIn l i) (j : Int) = l.getD j 0 := by
 rw [rd_getD, List.getD_eq_getElem?_getD, turnIn_get l i h j hj, if_neg (by omega), List.getD_eq_getElem?_getD]
theorem reverse_ev (l : List Int) (hl : l.length ≤ 17592186044400) : Ev (fun k => slices_Reverse_int_int.f k l) l.reverse := by
 have key : ∀ (d i : Nat), 2 * i ≤ l.length → l.length - 2 * i = d → Ev (fun k => slices_Reverse_int_int.l0 k (turnIn l i) (i : Int) ((l.length : Int) - 1 - i)) l.reverse := by
  intro d
  induction d using Nat.strongRecOn with
  | ind d ih =>
   intro i hi hd
   by_cases hlt : (i : Int) < (l.length : Int) - 1 - i
   ·have h2 : 2 * (i + 1) ≤ l.length := by omega
    have hlen := turnIn_len l i hi
    have e1 : (l.length : Int) - 1 - i = ((l.length - 1 - i : Nat) : Int) := by omega
    have w1 : wrap64 ((i : Int) + 1) = ((i + 1 : Nat) : Int) := wsucc (show i < l.length by omega) (by omega)
    have w2 : wrap64 (((l.length - 1 - i : Nat) : Int) - 1) = (l.length : Int) - 1 - ((i + 1 : Nat) : Int) := by unfold wrap64; omega
    have hnext := ih (l.length - 2 * (i + 1)) (by omega) (i + 1) h2 rfl
    rw [← w2, ← w1, ← turnIn_step l i h2] at hnext
    clear w1 w2
    rw [e1] at hlt ⊢
    refine Ev.step (fun k => ?_) hnext
    conv => lhs; unfold slices_Reverse_int_int.l0
    rw [if_pos hlt, if_pos (by omega), if_pos (by omega), if_pos (by omega), if_pos (by omega), turnIn_mid l i _ hi (by omega) (by omega) (by omega), turnIn_mid l i i hi (by omega) (by omega) (by omega)]
    rfl
   ·refine Ev.step (f := fun _ => some l.reverse) (fun k => ?_) (Ev.now _)
    conv => lhs; unfold slices_Reverse_int_int.l0
    rw [if_neg hlt, turnIn_end l i hi (by omega)]
 have h0 := key l.length 0 (by omega) (by omega)
 rw [turnIn_zero] at h0
 have hw : wrap64 ((l.length : Int) - 1) = (l.length : Int) - 1 - ((0 : Nat) : Int) := by unfold wrap64; omega
 unfold slices_Reverse_int_int.f
 rw [hw]
 exact h0
end Go.Proofs.YtfonajakaimnoaaDoor.C14

namespace Go.Proofs.YtfonajakaimnoaaDoor.C11
open Go.RowKit Go.ChangeShapes Go.Proofs.YtfonajakaimnoaaDoorW.PrintWords Go.Proofs.YtfonajakaimnoaaDoorW.PrintLast Go.Proofs.YtfonajakaimnoaaDoorW.PrintMore Lent
set_option linter.unusedVariables false
set_option linter.unusedSimpArgs false
set_option maxRecDepth 100000
theorem errRow (u : TypeId) (h : Tryd.prog.typeName? 3 u = some "*errors.errorString") : u = 162 :=
 typeName_ptr_named (nm := "errors.errorString") (by rw [show "*" ++ "errors.errorString" = "*errors.errorString" from by decide +kernel]; kernel_rfl) (by kernel_rfl) (by decide) u (by rw [show "*" ++ "errors.errorString" = "*errors.errorString" from by decide +kernel]; exact h)
abbrev errV (a : Addr) : Value := .iface 162 (.pointer (some a))
structure Sen (a0 a1 a2 : Addr) (W : World) : Prop where
 h0 : W.cell? ⟨0, 0, none⟩ = some (errV a0)
 h1 : W.cell? ⟨1, 0, none⟩ = some (errV a1)
 h2 : W.cell? ⟨2, 0, none⟩ = some (errV a2)
 k0 : ∃ c t, W.heap[a0.block]? = some (.cells c t (0, 0))
 k1 : ∃ c t, W.heap[a1.block]? = some (.cells c t (0, 0))
 k2 : ∃ c t, W.heap[a2.block]? = some (.cells c t (0, 0))
 n01 : a0 ≠ a1
 n02 : a0 ≠ a2
 n12 : a1 ≠ a2
theorem Sen.step {a0 a1 a2 : Addr} {W W' : World} (h : Sen a0 a1 a2 W) (hb : Below W.heap.size W W') : Sen a0 a1 a2 W' :=
 ⟨pw_cell_below hb h.h0, pw_cell_below hb h.h1, pw_cell_below hb h.h2, h.k0.imp fun _ ⟨t, e⟩ => ⟨t, (hb.block _ (blk_lt e)).trans e⟩, h.k1.imp fun _ ⟨t, e⟩ => ⟨t, (hb.block _ (blk_lt e)).trans e⟩, h.k2.imp fun _ ⟨t, e⟩ => ⟨t, (hb.block _ (blk_lt e)).trans e⟩, h.n01, h.n02, h.n12⟩
theorem sen_of_laid {W : World} {n0 n1 n2 : String} {x0 x1 x2 : List UInt8} {r : List (String × DataW Unit)} (e0 : n0 = "caesura/api.ErrArg") (e1 : n1 = "caesura/api.ErrText") (e2 : n2 = "caesura/api.ErrMany")
  (h : laidMet Tryd.prog ((n0, .iface "*errors.errorString" (.ptr (.agg [.lit (.string x0)]))) :: (n1, .iface "*errors.errorString" (.ptr (.agg [.lit (.string x1)]))) :: (n2, .iface "*errors.errorString" (.ptr (.agg [.lit (.string x2)]))) :: r) W) :
  ∃ a0 a1 a2, Sen a0 a1 a2 W := by
 subst e0 e1 e2
 have G0 : Tryd.prog.globalNamed "caesura/api.ErrArg" = some 0 := by kernel_rfl
 have G1 : Tryd.prog.globalNamed "caesura/api.ErrText" = some 1 := by kernel_rfl
 have G2 : Tryd.prog.globalNamed "caesura/api.ErrMany" = some 2 := by kernel_rfl
 have T0 : (Tryd.prog.globals[(0 : Nat)]?).map (·.type) = some 30 := by kernel_rfl
 have T1 : (Tryd.prog.globals[(1 : Nat)]?).map (·.type) = some 30 := by kernel_rfl
 have T2 : (Tryd.prog.globals[(2 : Nat)]?).map (·.type) = some 30 := by kernel_rfl
 obtain ⟨ps, ⟨g0, t0, cs0, f0, p0, q0, hg0, ht0, hv0, hd0, ⟨g1, t1, cs1, f1, p1, q1, hg1, ht1, hv1, hd1, ⟨g2, t2, cs2, f2, p2, q2, hg2, ht2, hv2, hd2, _, z2⟩, z1⟩, z0⟩, hnd, hrows⟩ := h
 obtain rfl := Option.some.inj (G0.symm.trans hg0)
 obtain rfl := Option.some.inj (G1.symm.trans hg1)
 obtain rfl := Option.some.inj (G2.symm.trans hg2)
 obtain rfl := Option.some.inj (T0.symm.trans ht0)
 obtain rfl := Option.some.inj (T1.symm.trans ht1)
 obtain rfl := Option.some.inj (T2.symm.trans ht2)
 subst z2
 subst z1
 subst z0
 obtain ⟨l0⟩ := cs0
 obtain ⟨l1⟩ := cs1
 obtain ⟨l2⟩ := cs2
 have ok0 : ∀ u v, l0 = [.iface u v] → Value.okWide Tryd.prog W .any 0 u v := fun u v e => by
  subst e
  exact (hrows 0 0 (by simp [MemPlace.row])).2 u v (by simpa using World.var?_cell hg0 hv0 0)
 have ok1 : ∀ u v, l1 = [.iface u v] → Value.okWide Tryd.prog W .any 0 u v := fun u v e => by
  subst e
  exact (hrows 1 0 (by simp [MemPlace.row])).2 u v (by simpa using World.var?_cell hg1 hv1 0)
 have ok2 : ∀ u v, l2 = [.iface u v] → Value.okWide Tryd.prog W .any 0 u v := fun u v e => by
  subst e
  exact (hrows 2 0 (by simp [MemPlace.row])).2 u v (by simpa using World.var?_cell hg2 hv2 0)
 have c1 : Tryd.prog.cellsOf 177 = 1 := by kernel_rfl
 have c2 : Tryd.prog.cellsOf 9 = 1 := by kernel_rfl
 obtain ⟨a0, s0, rfl, hc0, hs0, hz0, rfl⟩ := errorString_of_trod Tryd.underlying30 errRow Tryd.underlying162 Tryd.underlying177 rfl rfl Tryd.underlying9 c1 c2 hd0 ok0
 obtain ⟨a1, s1, rfl, hc1, hs1, hz1, rfl⟩ := errorString_of_trod Tryd.underlying30 errRow Tryd.underlying162 Tryd.underlying177 rfl rfl Tryd.underlying9 c1 c2 hd1 ok1
 obtain ⟨a2, s2, rfl, hc2, hs2, hz2, rfl⟩ := errorString_of_trod Tryd.underlying30 errRow Tryd.underlying162 Tryd.underlying177 rfl rfl Tryd.underlying9 c1 c2 hd2 ok2
 refine ⟨a0, a1, a2, by simpa using World.var?_cell hg0 hv0 0, by simpa using World.var?_cell hg1 hv1 0, by simpa using World.var?_cell hg2 hv2 0, (hrows a0.block a0.off (by simp [MemPlace.row])).1, (hrows a1.block a1.off (by simp [MemPlace.row])).1, (hrows a2.block a2.off (by simp [MemPlace.row])).1, ?_, ?_, ?_⟩
 ·rintro rfl
  simp [MemPlace.row] at hnd
 ·rintro rfl
  simp [MemPlace.row] at hnd
 ·rintro rfl
  simp [MemPlace.row] at hnd
theorem errInfo : ∃ i j, Tryd.prog.info? 162 = some i ∧ i.comparable = true ∧ Tryd.prog.info? 177 = some j ∧ j.size ≠ 0 := by
 have h1 : (Tryd.prog.info? 162).map (·.comparable) = some true := by kernel_rfl
 have h2 : (Tryd.prog.info? 177).map (·.size) = some 1 := by kernel_rfl
 obtain ⟨i, hi, e1⟩ := Option.map_eq_some_iff.1 h1
 obtain ⟨j, hj, e2⟩ := Option.map_eq_some_iff.1 h2
 exact ⟨i, j, hi, e1, hj, by rw [e2]; decide⟩
theorem eq_same (w : World) (a : Addr) : (binOp .eql 30 (errV a) (errV a)).run Tryd.prog w = .ok (.bool true) w := by
 obtain ⟨i, j, h1, h2, h3, _⟩ := errInfo
 exact run_eql_iface_ptr_same w a Tryd.underlying30 Tryd.underlying162 h1 h2 h3
theorem eq_other (w : World) {a b : Addr} (hne : a ≠ b) (ha : ∃ c t, w.heap[a.block]? = some (.cells c t (0, 0))) (hb : ∃ c t, w.heap[b.block]? = some (.cells c t (0, 0))) : (binOp .eql 30 (errV a) (errV b)).run Tryd.prog w = .ok (.bool false) w := by
 obtain ⟨i, j, h1, h2, h3, h4⟩ := errInfo
 obtain ⟨_, _, ha⟩ := ha
 obtain ⟨_, _, hb⟩ := hb
 exact run_eql_iface_ptr_other w Tryd.underlying30 Tryd.underlying162 h1 h2 h3 h4 hne ha hb
theorem errMeths : Tryd.prog.underlying 30 = some (.interface (Tryd.prog.methodsAt 30)) := by simp [Program.methodsAt, Tryd.underlying30]
set_option maxHeartbeats 1000000 in
theorem num_calls {a0 a1 a2 : Addr} (w : World) (h : Sen a0 a1 a2 w) (c : Nat) (hc : c = 0 ∨ c = 1 ∨ c = 3) :
  Calls Tryd.prog 17 #[errMA (errV a2) (errV a0) c] w fun e w' => e = .returned (.int .i64 c) ∧ Below w.heap.size w w' := by
 have q0 := h.h0
 have q1 := h.h1
 have q2 := h.h2
 rcases hc with rfl | rfl | rfl
 ·have e : errMA (errV a2) (errV a0) 0 = .nilIface := rfl
  rw [e]
  have hn := run_eql_nil_nil (P := Tryd.prog) w 30 errMeths
  clear e h
  go_enter Tryd.func17, Tryd.ntmps17
  go_wp2
  go_ret
  exact ⟨rfl, Below.refl _ _⟩
 ·have e : errMA (errV a2) (errV a0) 1 = errV a0 := rfl
  rw [e]
  have hn := run_eql_held_nil (P := Tryd.prog) w 30 162 (.pointer (some a0)) errMeths
  have hs := eq_same w a0
  clear e h
  go_enter Tryd.func17, Tryd.ntmps17
  go_wp2
  go_ret
  exact ⟨rfl, Below.refl _ _⟩
 ·have e : errMA (errV a2) (errV a0) 3 = errV a2 := rfl
  rw [e]
  have hn := run_eql_held_nil (P := Tryd.prog) w 30 162 (.pointer (some a2)) errMeths
  have hs := eq_same w a2
  have ho0 := eq_other w (Ne.symm h.n02) h.k2 h.k0
  have ho1 := eq_other w (Ne.symm h.n12) h.k2 h.k1
  clear e h
  go_enter Tryd.func17, Tryd.ntmps17
  go_wp2
  go_ret
  exact ⟨rfl, Below.refl _ _⟩
end Go.Proofs.YtfonajakaimnoaaDoor.C11

namespace Go.Proofs.YtfonajakaimnoaaDoor.C14
open Go.RowKit Go.Proofs.YtfonajakaimnoaaDoorW.PrintWords Go.Proofs.YtfonajakaimnoaaDoorW.PrintLast Go.Proofs.YtfonajakaimnoaaDoorW.PrintMore Go.Proofs.YtfonajakaimnoaaDoor.Lib Lent Go.Proofs.YtfonajakaimnoaaDoor.Fn Go.Proofs.YtfonajakaimnoaaDoor.C11
set_option linter.unusedVariables false
set_option linter.unusedSimpArgs false
theorem rows_bnd {W : World} {A : Option Addr} {X : LL} (h : Kd.C kL W A X.length X) : ∀ x ∈ X, x.length ≤ 9223372036854775807 := fun x hx => by
 obtain ⟨j, hj, rfl⟩ := List.getElem_of_mem hx
 obtain ⟨_, _, _, _, _, _, hC⟩ := Fn.list_at h j _ (List.getElem?_eq_getElem hj)
 exact Lent.C_bound hC
section
variable {s0 : Int} {A0 : Option Addr} {c0 : Nat} {N0 : LL} {A1 : Option Addr} {c1 : Nat} {O0 : LL} {s1 : Int} {A2 : Option Addr} {c2 : Nat} {N1 : LL} {A3 : Option Addr} {c3 : Nat} {O1 : LL} {A4 : Option Addr} {c4 : Nat} {B : List Bool} {els : Bool} {A5 : Option Addr} {c5 : Nat} {word : List Int} {w w' : World} {a0 a1 a2 : Addr}
theorem errI_num (r : Int) (hr : r = 0 ∨ r = 1) (hS : Sen a0 a1 a2 w) : Calls Tryd.prog 17 #[errI (errV a0) r] w fun e w' => e = .returned (.int .i64 r) ∧ Below w.heap.size w w' := by
 rcases hr with rfl | rfl
 ·exact num_calls w hS 0 (.inl rfl)
 ·exact num_calls w hS 1 (.inr (.inl rfl))
end
end Go.Proofs.YtfonajakaimnoaaDoor.C14

namespace Go.Proofs.YtfonajakaimnoaaDoor.C11
open Go.RowKit Go.Proofs.YtfonajakaimnoaaDoorW.PrintWords Go.Proofs.YtfonajakaimnoaaDoorW.PrintLast Go.Proofs.YtfonajakaimnoaaDoorW.PrintMore Go.Proofs.YtfonajakaimnoaaDoor.Lib Lent Go.Proofs.YtfonajakaimnoaaDoor.Fn Go.Proofs.YtfonajakaimnoaaDoor.Lend
set_option linter.unusedVariables false
set_option linter.unusedSimpArgs false
attribute [local go_sem] max2_int min2_int max_two min_two max_three min_three max_four min_four
abbrev rng (a b : Nat) : Nat → Prop := fun k => a ≤ k ∧ k < b
end Go.Proofs.YtfonajakaimnoaaDoor.C11

namespace Go.Proofs.YtfonajakaimnoaaDoor.C13
open Go.RowKit Go.Proofs.YtfonajakaimnoaaDoorW.PrintWords Go.Proofs.YtfonajakaimnoaaDoorW.PrintLast Go.Proofs.YtfonajakaimnoaaDoorW.PrintMore Go.Proofs.YtfonajakaimnoaaDoor.Lib Lent Go.Proofs.YtfonajakaimnoaaDoor.Fn Go.Proofs.YtfonajakaimnoaaDoor.C11 Go.Proofs.YtfonajakaimnoaaDoor.Lend Go.Proofs.YtfonajakaimnoaaDoor.C14
set_option linter.unusedVariables false
set_option linter.unusedSimpArgs false
attribute [local go_sem] max2_int min2_int max_two min_two max_three min_three max_four min_four
def tw.T1 : Bool × List (List Nat × List Nat) := (true, [([], []), ([0], [0]), ([], []), ([2], [2]), ([3], [3]), ([], []), ([5], [5]), ([6, 4], [6]), ([1, 4, 7], [1, 4, 7]), ([8, 7, 0, 1, 2, 3, 4, 5, 6, 7, 8], [8])])
def tw.B1 : List Nat := [0, 1, 0, 4, 12, 0, 32, 124, 255, 511]
theorem tw.tab1 : rtab .any (opsOf Tryd.f12 1) = tw.T1 := by kernel_rfl
theorem tw.bits1 : waitsOk tw.T1.2 tw.B1 = true := by kernel_rfl
structure Mc (A0 : Option Addr) (c0 : Nat) (N : LL) (A1 : Option Addr) (c1 : Nat) (O : LL) (w : World) : Prop where
 n : Kd.C kL w A0 N.length N ∧ N.length ≤ c0
 o : Kd.C kL w A1 O.length O ∧ O.length ≤ c1
structure MQ (base h0 h1 h2 : Nat) (A0 : Option Addr) (c0 : Nat) (N : LL) (A1 : Option Addr) (c1 : Nat) (O : LL) (w : World) : Prop where
 p0 : Kd.S kM 25 w base (rng h0 h1) (.slice A0 (rows64 N).length c0) (rows64 N)
 p1 : Kd.S kM 25 w base (rng h1 h2) (.slice A1 (rows64 O).length c1) (rows64 O)
 o : base ≤ h0 ∧ h0 ≤ h1 ∧ h1 ≤ h2 ∧ h2 ≤ w.heap.size
section
variable {base h0 h1 h2 : Nat} {A0 : Option Addr} {c0 : Nat} {N : LL} {A1 : Option Addr} {c1 : Nat} {O : LL} {w w' : World}
theorem Mc.below (h : Mc A0 c0 N A1 c1 O w) (hb : Below w.heap.size w w') : Mc A0 c0 N A1 c1 O w' := ⟨⟨Kd.C_below h.n.1 hb, h.n.2⟩, ⟨Kd.C_below h.o.1 hb, h.o.2⟩⟩
theorem MQ.mc (h : MQ base h0 h1 h2 A0 c0 N A1 c1 O w) : Mc A0 c0 N A1 c1 O w := by
 obtain ⟨_, l0, k0⟩ := Kd.S_reads' h.p0
 obtain ⟨_, l1, k1⟩ := Kd.S_reads' h.p1
 rw [rows64_length] at l0 l1
 exact ⟨⟨row64_C k0, by omega⟩, ⟨row64_C k1, by omega⟩⟩
theorem MQ.move (h : MQ base h0 h1 h2 A0 c0 N A1 c1 O w) (hm : ∀ k, h0 ≤ k → k < h2 → w'.heap[k]? = w.heap[k]?) (hs : h2 ≤ w'.heap.size) : MQ base h0 h1 h2 A0 c0 N A1 c1 O w' :=
 ⟨Kd.S_move h.p0 (fun k hk => hm k hk.1 (by have := hk.2; have := h.o; omega)), Kd.S_move h.p1 (fun k hk => hm k (by have := hk.1; have := h.o; omega) hk.2), by have := h.o; omega⟩
theorem MQ.step (h : MQ base h0 h1 h2 A0 c0 N A1 c1 O w) (hb : Below w.heap.size w w') : MQ base h0 h1 h2 A0 c0 N A1 c1 O w' :=
 h.move (fun k _ hk => hb.block k (by have := h.o; omega)) (by have := h.o; have := hb.size; omega)
theorem MQ.lower {base' : Nat} (h : MQ base h0 h1 h2 A0 c0 N A1 c1 O w) (hb : base' ≤ base) : MQ base' h0 h1 h2 A0 c0 N A1 c1 O w :=
 ⟨Kd.S_lower h.p0 hb, Kd.S_lower h.p1 hb, by have := h.o; omega⟩
end
structure TW (w : World) (CE QE : Array Value) (W : World) : Prop where
 below : Below w.heap.size w W
 box : W.heap[w.heap.size]? = some (.cells CE 24 (0, 0))
 q : W.heap[w.heap.size + 1]? = some (.cells QE 24 (0, 0))
section
variable {w : World} {CE QE : Array Value} {W W' : World}
theorem TW.step (h : TW w CE QE W) (hb : Below W.heap.size W W') : TW w CE QE W' :=
 ⟨below_step h.below hb, (hb.block _ (blk_lt h.box)).trans h.box, (hb.block _ (blk_lt h.q)).trans h.q⟩
theorem TW.held {s0 : Int} {A0 : Option Addr} {c0 : Nat} {N : LL} {A1 : Option Addr} {c1 : Nat} {O : LL} (h : TW w #[.int .i64 s0, .slice A0 N.length c0, .slice A1 O.length c1] QE W) : W.cell? ⟨w.heap.size, 0, none⟩ = some (.int .i64 s0) ∧ W.cell? ⟨w.heap.size, 1, none⟩ = some (.slice A0 N.length c0) ∧ W.cell? ⟨w.heap.size, 2, none⟩ = some (.slice A1 O.length c1) :=
 ⟨(blk_cell h.box 0).trans rfl, (blk_cell h.box 1).trans rfl, (blk_cell h.box 2).trans rfl⟩
theorem TW.put (h : TW w CE QE W) (j : Nat) (u : Value) : TW w CE (QE.setIfInBounds j u) (W.setCell ⟨w.heap.size + 1, j, none⟩ u) :=
 ⟨h.below.setCell (by show w.heap.size ≤ w.heap.size + 1; omega) _, blk_far h.box (by simp) _, blk_put h.q j u rfl⟩
end
set_option maxHeartbeats 4000000 in
set_option maxRecDepth 100000 in
theorem twin_calls {s0 : Int} {A0 : Option Addr} {c0 : Nat} {N : LL} {A1 : Option Addr} {c1 : Nat} {O : LL} {w : World} (h : Mc A0 c0 N A1 c1 O w) (hb : N.length ≤ 5000000000000 ∧ O.length ≤ 5000000000000)
  (hr : (∀ l ∈ N, l.length ≤ 17000000000000) ∧ (∀ l ∈ O, l.length ≤ 17000000000000)) :
  Calls Tryd.prog 12 #[.agg #[.int .i64 s0, .slice A0 N.length c0, .slice A1 O.length c1]] w fun e w' =>
   ∃ (Z0 Z1 : Option Addr) (e0 e1 h0 h1 h2 : Nat), e = .returned (.agg #[.int .i64 s0, .slice Z0 N.length e0, .slice Z1 O.length e1]) ∧ MQ w.heap.size h0 h1 h2 Z0 e0 N Z1 e1 O w' ∧ Below w.heap.size w w' := by
 have hu := Tryd.underlying24
 have H := Aside0.mk h
 have HN := Aside0.mk hb
 have HR := Aside0.mk hr
 clear h hb hr
 go_enter Tryd.func12, Tryd.ntmps12
 go_upto_region 1 with fail
 have HB : Aside0 (TW w #[.int .i64 s0, .slice A0 N.length c0, .slice A1 O.length c1] #[.int .i64 0, .slice none 0 0, .slice none 0 0] ((w.alloc (.cells #[.int .i64 s0, .slice A0 N.length c0, .slice A1 O.length c1] 24)).alloc (.cells #[.int .i64 0, .slice none 0 0, .slice none 0 0] 24))) :=
  ⟨⟨below_alloc (below_alloc (Below.refl w.heap.size w) _) _, (by rw [heap_alloc_old _ _ (by simp)]; exact heap_alloc_new _ _),
   (by have := heap_alloc_new (w.alloc (.cells #[.int .i64 s0, .slice A0 N.length c0, .slice A1 O.length c1] 24)) (.cells #[.int .i64 0, .slice none 0 0, .slice none 0 0] 24); simpa using this)⟩⟩
 generalize World.alloc _ _ = w0 at HB ⊢
 replace HB := Aside0.mk (HB.out.step (below_drew (Below.refl _ w0)))
 refine start_ (n := 10) (S := fun w' => w'.cell? ⟨w.heap.size, 0, none⟩ = some (.int .i64 s0) ∧ w'.cell? ⟨w.heap.size, 1, none⟩ = some (.slice A0 N.length c0) ∧ w'.cell? ⟨w.heap.size, 2, none⟩ = some (.slice A1 O.length c1)) (ds := [9]) #[false, false, false, false, false, false, false, false, false, false] (by kernel_rfl) rfl rfl HB.out.held (fun hHeld => ?_)
 refine with_tabW tw.tab1 tw.bits1 (fun HT_ HW_ => ?_)
 generalize w0.drew = wn at HB hHeld ⊢
 obtain ⟨g0, hg0⟩ : ∃ g, g = wn.heap.size := ⟨_, rfl⟩
 have E0 : Aside0 (w.heap.size + 2 ≤ g0 ∧ g0 ≤ wn.heap.size) := ⟨by have := blk_lt HB.out.q; omega⟩
 have G := Aside0.mk hg0
 clear hg0
 refine pure_ (i := 0) (N := some 3) (v := ?_) (a' := ?_) #[true, false, false, false, false, false, false, false, false, false] rfl rfl (any_of HT_.out (by kernel_rfl)) (fun _ _ _ h => h) (Or.inl ⟨by rfl, ?_⟩) ?_ ?_
 rotate_left
 ·intro w'
  go_simp
  with_reducible rfl
 rotate_left
 ·simp only [Act.put, List.setIfInBounds_toArray, List.set_cons_zero, List.set_cons_succ, i64_w, i32_w]
  rfl
 refine take_ (i := 1) (N := some 4) (v := ?_) (a' := ?_) #[true, true, false, false, false, false, false, false, false, false] rfl rfl (take_ofW HT_.out HW_.out (by kernel_rfl)) (fun _ _ _ h => h) (Or.inl ⟨by rfl, ?_⟩) hHeld ?_ ?_
 rotate_left
 ·rintro w' ⟨s0, s1, s2⟩
  go_simp
  with_reducible rfl
 rotate_left
 ·simp only [Act.put, List.setIfInBounds_toArray, List.set_cons_zero, List.set_cons_succ, i64_w, i32_w]
  rfl
 refine pure_ (i := 2) (N := some 5) (v := ?_) (a' := ?_) #[true, true, true, false, false, false, false, false, false, false] rfl rfl (any_of HT_.out (by kernel_rfl)) (fun _ _ _ h => h) (Or.inl ⟨by rfl, ?_⟩) ?_ ?_
 rotate_left
 ·intro w'
  go_simp
  with_reducible rfl
 rotate_left
 ·simp only [Act.put, List.setIfInBounds_toArray, List.set_cons_zero, List.set_cons_succ, i64_w, i32_w]
  rfl
 refine take_ (i := 3) (N := some 6) (v := ?_) (a' := ?_) #[true, true, true, true, false, false, false, false, false, false] rfl rfl (take_ofW HT_.out HW_.out (by kernel_rfl)) (fun _ _ _ h => h) (Or.inl ⟨by rfl, ?_⟩) hHeld ?_ ?_
 rotate_left
 ·rintro w' ⟨s0, s1, s2⟩
  go_simp
  with_reducible rfl
 rotate_left
 ·simp only [Act.put, List.setIfInBounds_toArray, List.set_cons_zero, List.set_cons_succ, i64_w, i32_w]
  rfl
 refine pure_ (i := 5) (N := some 8) (v := ?_) (a' := ?_) #[true, true, true, true, false, true, false, false, false, false] rfl rfl (any_of HT_.out (by kernel_rfl)) (fun _ _ _ h => h) (Or.inl ⟨by rfl, ?_⟩) ?_ ?_
 rotate_left
 ·intro w'
  go_simp
  with_reducible rfl
 rotate_left
 ·simp only [Act.put, List.setIfInBounds_toArray, List.set_cons_zero, List.set_cons_succ, i64_w, i32_w]
  rfl
 refine take_ (i := 6) (N := some 9) (v := ?_) (a' := ?_) #[true, true, true, true, false, true, true, false, false, false] rfl rfl (take_ofW HT_.out HW_.out (by kernel_rfl)) (fun _ _ _ h => h) (Or.inl ⟨by rfl, ?_⟩) hHeld ?_ ?_
 rotate_left
 ·rintro w' ⟨s0, s1, s2⟩
  go_simp
  with_reducible rfl
 rotate_left
 ·simp only [Act.put, List.setIfInBounds_toArray, List.set_cons_zero, List.set_cons_succ, i64_w, i32_w]
  rfl
 refine one_ (i := 4) (N := some 7) #[true, true, true, true, true, true, true, false, false, false] rfl rfl (one_of HT_.out (by kernel_rfl)) (by decide) (fun K hK => ?_)
 refine goes_ Tryd.func63 (by kernel_rfl) rfl #[.slice A0 N.length c0] (by rfl) rfl rfl (by (try simp only [List.map_toArray, List.map_cons, List.map_nil]); first | done | rfl) ?_
 refine (rows_calls A0 c0 N _ (Kd.C_below H.out.n.1 HB.out.below) HN.out.1 HR.out.1).mono ?_
 rintro e wm ⟨Z0, e0, rfl, ho, hb⟩
 refine ⟨_, rfl, ?_⟩
 obtain ⟨g1, hg1⟩ : ∃ g, g = wm.heap.size := ⟨_, rfl⟩
 have K0 := Aside0.mk (Kd.S_mono (Kd.S_lower (Kd.S_bound ho) HB.out.below.size) (ok' := rng g0 g1) (fun k hk => ⟨by rw [G.out]; exact hk.2.1, by rw [hg1]; exact hk.2.2.1⟩))
 
 have E1 : Aside0 (w.heap.size + 2 ≤ g0 ∧ g0 ≤ g1 ∧ g1 ≤ wm.heap.size) := ⟨by have := E0.out; have := hb.size; have := G.out; omega⟩
 clear G ho E0
 have G := Aside0.mk hg1
 clear hg1
 replace HB := Aside0.mk (HB.out.step hb)
 obtain ⟨wn, rfl⟩ : ∃ wn, wn = wm := ⟨_, rfl⟩
 refine hK.out _ _ HB.out.held (fun hHeld => ?_)
 clear hK K hb
 refine norm_ (a' := ?_) ?_ ?_
 rotate_left
 ·show Act.put _ (some 7) _ = _
  simp only [Act.put, List.setIfInBounds_toArray, List.set_cons_zero, List.set_cons_succ, i64_w, i32_w]
  rfl
 refine one_ (i := 7) (N := some 10) #[true, true, true, true, true, true, true, true, false, false] rfl rfl (one_of HT_.out (by kernel_rfl)) (by decide) (fun K hK => ?_)
 refine goes_ Tryd.func63 (by kernel_rfl) rfl #[.slice A1 O.length c1] (by rfl) rfl rfl (by (try simp only [List.map_toArray, List.map_cons, List.map_nil]); first | done | rfl) ?_
 refine (rows_calls A1 c1 O _ (Kd.C_below H.out.o.1 HB.out.below) HN.out.2 HR.out.2).mono ?_
 rintro e wm ⟨Z1, e1, rfl, ho, hb⟩
 refine ⟨_, rfl, ?_⟩
 obtain ⟨g2, hg2⟩ : ∃ g, g = wm.heap.size := ⟨_, rfl⟩
 have K1 := Aside0.mk (Kd.S_mono (Kd.S_lower (Kd.S_bound ho) HB.out.below.size) (ok' := rng g1 g2) (fun k hk => ⟨by rw [G.out]; exact hk.2.1, by rw [hg2]; exact hk.2.2.1⟩))
 replace K0 := Aside0.mk (Kd.S_below K0.out hb)
 have E2 : Aside0 (w.heap.size + 2 ≤ g0 ∧ g0 ≤ g1 ∧ g1 ≤ g2 ∧ g2 ≤ wm.heap.size) := ⟨by have := E1.out; have := hb.size; have := G.out; omega⟩
 clear G ho E1
 have G := Aside0.mk hg2
 clear hg2
 replace HB := Aside0.mk (HB.out.step hb)
 obtain ⟨wn, rfl⟩ : ∃ wn, wn = wm := ⟨_, rfl⟩
 refine hK.out _ _ HB.out.held (fun hHeld => ?_)
 clear hK K hb
 refine norm_ (a' := ?_) ?_ ?_
 rotate_left
 ·show Act.put _ (some 10) _ = _
  simp only [Act.put, List.setIfInBounds_toArray, List.set_cons_zero, List.set_cons_succ, i64_w, i32_w]
  rfl
 refine pure_ (i := 8) (N := some 11) (v := ?_) (a' := ?_) #[true, true, true, true, true, true, true, true, true, false] rfl rfl (any_of HT_.out (by kernel_rfl)) (fun _ _ _ h => h) (Or.inl ⟨by rfl, ?_⟩) ?_ ?_
 rotate_left
 ·intro w'
  go_simp
  with_reducible rfl
 rotate_left
 ·simp only [Act.put, List.setIfInBounds_toArray, List.set_cons_zero, List.set_cons_succ, i64_w, i32_w]
  rfl
 refine last_ (i := 9) (N := none) #[true, true, true, true, true, true, true, true, true, true] rfl rfl (one_of HT_.out (by kernel_rfl)) (by decide) (fun K hK => ?_)
 have z0 : wn.cell? ⟨w.heap.size + 1, 0, none⟩ = some (.int .i64 0) := (blk_cell HB.out.q 0).trans rfl
 have y0 := blk_frozen HB.out.q 0
 have z1 : wn.cell? ⟨w.heap.size + 1, 1, none⟩ = some (.slice none 0 0) := (blk_cell HB.out.q 1).trans rfl
 have y1 := blk_frozen HB.out.q 1
 have z2 : wn.cell? ⟨w.heap.size + 1, 2, none⟩ = some (.slice none 0 0) := (blk_cell HB.out.q 2).trans rfl
 have y2 := blk_frozen HB.out.q 2
 refine skip_ (w1 := ?_) (by rfl) rfl ?_ ?_
 rotate_left
 ·go_simp
  rfl
 refine hK.out _ _ ?_
 clear hK K z0 z1 z2 y0 y1 y2
 refine done_ (done_of HT_.out (by kernel_rfl)) ?_
 go_wp2_with fail
 replace HB := Aside0.mk (show TW w #[.int .i64 s0, .slice A0 N.length c0, .slice A1 O.length c1] #[.int .i64 s0, .slice Z0 N.length e0, .slice Z1 O.length e1] _ from ((HB.out.put 0 (.int .i64 s0)).put 1 (.slice Z0 N.length e0)).put 2 (.slice Z1 O.length e1))
 have mv : ∀ k, k ≠ w.heap.size + 1 → (((wn.setCell ⟨w.heap.size + 1, 0, none⟩ (.int .i64 s0)).setCell ⟨w.heap.size + 1, 1, none⟩ (.slice Z0 N.length e0)).setCell ⟨w.heap.size + 1, 2, none⟩ (.slice Z1 O.length e1)).heap[k]? = wn.heap[k]? := fun k hne => by
  rw [Below.heap_setCell _ ⟨w.heap.size + 1, 2, none⟩ _ k hne, Below.heap_setCell _ ⟨w.heap.size + 1, 1, none⟩ _ k hne, Below.heap_setCell _ ⟨w.heap.size + 1, 0, none⟩ _ k hne]
 replace K0 := Aside0.mk (Kd.S_move K0.out (fun k hk => mv k (by have := hk.1; have := E2.out; omega)))
 replace K1 := Aside0.mk (Kd.S_move K1.out (fun k hk => mv k (by have := hk.1; have := E2.out; omega)))
 clear mv
 replace E2 := Aside0.mk (show w.heap.size + 2 ≤ g0 ∧ g0 ≤ g1 ∧ g1 ≤ g2 ∧ g2 ≤ (((wn.setCell ⟨w.heap.size + 1, 0, none⟩ (.int .i64 s0)).setCell ⟨w.heap.size + 1, 1, none⟩ (.slice Z0 N.length e0)).setCell ⟨w.heap.size + 1, 2, none⟩ (.slice Z1 O.length e1)).heap.size from by simpa [World.setCell] using E2.out)
 clear G
 generalize World.setCell _ _ _ = w5 at HB K0 K1 E2 ⊢
 refine bodyPost_ret (results_cell_row rfl _ _ (w.heap.size + 1) 24 #[.int .i64 s0, .slice Z0 N.length e0, .slice Z1 O.length e1] (0, 0) _ rfl HB.out.q Tryd.underlying24 rfl (by kernel_rfl)) rfl ?_
 exact ⟨Z0, Z1, e0, e1, g0, g1, g2, rfl, ⟨K0.out, K1.out, by have := E2.out; omega⟩, HB.out.below⟩
end Go.Proofs.YtfonajakaimnoaaDoor.C13

namespace Go.Proofs.YtfonajakaimnoaaDoor.Lib
open Go.RowKit Go.Proofs.YtfonajakaimnoaaDoorW.PrintWords Go.Proofs.YtfonajakaimnoaaDoorW.PrintLast Go.Proofs.YtfonajakaimnoaaDoorW.PrintMore
attribute [local go_sem] max2_int min2_int max_two min_two max_three min_three max_four min_four   -- for this text's walks alone
set_option linter.unusedVariables false
set_option linter.unusedSimpArgs false
def caesuraref13_rises.l0 : Nat → List Int → Int → Option (Bool)
 | 0, _, _ => none
 | k + 1, x0, x3 => if x3 < (x0.length : Int) then (if 0 ≤ x3 then (if (rd x0 x3) < 0 then (some false) else (if x3 > 0 then (if 0 ≤ (wrap64 (x3 - 1)) then (if (wrap64 (x3 - 1)) < (x0.length : Int) then (if (rd x0 x3) ≤ (rd x0 (wrap64 (x3 - 1))) then (some false) else (caesuraref13_rises.l0 k x0 (wrap64 (x3 + 1)))) else (none)) else (none)) else (caesuraref13_rises.l0 k x0 (wrap64 (x3 + 1))))) else (none)) else (some true)
def caesuraref13_rises.f (k : Nat) (l0 : List Int) : Option (Bool) := caesuraref13_rises.l0 k l0 0
set_option maxHeartbeats 8000000 in
set_option maxRecDepth 100000 in
theorem caesuraref13_rises.calls (k : Nat) (A0 : Option Addr) (c0 : Nat) (l0 : List Int) (r : Bool) (w : World) (hr0 : Kd.C (Kd.int .i64) w A0 l0.length l0) (hc0 : l0.length ≤ c0) (h : caesuraref13_rises.f k l0 = some r) :
  Calls Tryd.prog 106 #[.slice A0 l0.length c0] w fun e w' => e = .returned (.bool r) ∧ Drawn0 w w' := by
 have HR0 := Aside0.mk hr0
 have HC0 := Aside0.mk hc0
 clear hr0 hc0
 have H : (caesuraref13_rises.l0 k l0 0) = some r := h
 clear h
 have H' := Aside0.mk H
 clear H
 go_enter Tryd.func106, Tryd.ntmps106
 go_wp2
 repeat (go_quiet (fail); try go_wp2)
 go_loopg [3] k (fun kq v3 w' => ∃ (x3_1 : Int), v3 = .int .i64 x3_1 ∧ Aside0 (caesuraref13_rises.l0 kq l0 x3_1 = some r) ∧ Aside0 (kq ≤ k) ∧ Drawn0 w w')
 case atStart => exact ⟨(0), (by first | rfl | (simp; done) | (simp [*]; done)), H', ⟨Nat.le_refl _⟩, by repeat (first | exact Drawn0.refl _ | apply Drawn0.step)⟩
 case round =>
  clear H'
  try clear c1
  obtain ⟨x3_1, rfl, HA, HK1, ⟨m1, rfl⟩⟩ := hrel
  cases gk with
  | zero => exact absurd HA.out (by simp [caesuraref13_rises.l0])
  | succ k1 =>
   have H := HA.out
   clear HA
   simp only [caesuraref13_rises.l0] at H
   by_cases c2 : x3_1 < (l0.length : Int)
   ·rw [if_pos c2] at H
    have c2b0 : decide (x3_1 < (l0.length : Int)) = true := decide_eq_true c2
    clear c2
    by_cases c3 : 0 ≤ x3_1
    ·rw [if_pos c3] at H
     have c3b0 : decide (0 ≤ x3_1) = true := decide_eq_true c3
     clear c3
     by_cases c4 : (rd l0 x3_1) < 0
     ·rw [if_pos c4] at H
      have c4b0 : decide ((rd l0 x3_1) < 0) = true := decide_eq_true c4
      clear c4
      obtain rfl := Option.some.inj H
      have p172 : 0 ≤ (x3_1 : Int) := of_decide_eq_true (by first | (with_reducible assumption) | assumption)
      have q172 : x3_1 < (l0.length : Int) := of_decide_eq_true (by first | (with_reducible assumption) | assumption)
      obtain ⟨ad172, e172, hx172_0⟩ := Kd.at_int HR0.out x3_1 p172 q172
      cases e172
      replace p172 := eq_true p172
      replace q172 := eq_true q172
      go_wp2
      repeat (go_quiet (fail); try go_wp2)
      go_ret
      exact ⟨by first | rfl | (simp; done) | (simp [*]; done), by repeat (first | exact Drawn0.refl _ | apply Drawn0.step)⟩
     ·rw [if_neg c4] at H
      have c4b0 : decide ((rd l0 x3_1) < 0) = false := decide_eq_false c4
      clear c4
      by_cases c5 : x3_1 > 0
      ·rw [if_pos c5] at H
       have c5b0 : decide (0 < x3_1) = true := decide_eq_true c5
       clear c5
       obtain ⟨ji6, hji6⟩ : ∃ j_ : Int, (wrap64 (x3_1 - 1)) = j_ := ⟨_, rfl⟩
       replace H : (if 0 ≤ (ji6) then (if (ji6) < (l0.length : Int) then (if (rd l0 x3_1) ≤ (rd l0 (ji6)) then (some false) else (caesuraref13_rises.l0 k1 l0 (wrap64 (x3_1 + 1)))) else (none)) else (none)) = some r := by first | (rw [hji6] at H; exact H) | (simp only [hji6] at H ⊢; exact H)
       have hji6w : (IntKind.i64.wrap (x3_1 - 1)) = ji6 := (i64_w _).trans hji6
       by_cases c7 : 0 ≤ (ji6)
       ·rw [if_pos c7] at H
        have c7b0 : decide (0 ≤ (ji6)) = true := decide_eq_true c7
        clear c7
        by_cases c8 : (ji6) < (l0.length : Int)
        ·rw [if_pos c8] at H
         have c8b0 : decide ((ji6) < (l0.length : Int)) = true := decide_eq_true c8
         clear c8
         by_cases c9 : (rd l0 x3_1) ≤ (rd l0 (ji6))
         ·rw [if_pos c9] at H
          have c9b0 : decide ((rd l0 x3_1) ≤ (rd l0 (ji6))) = true := decide_eq_true c9
          clear c9
          obtain rfl := Option.some.inj H
          have p172 : 0 ≤ (x3_1 : Int) := of_decide_eq_true (by first | (with_reducible assumption) | assumption)
          have q172 : x3_1 < (l0.length : Int) := of_decide_eq_true (by first | (with_reducible assumption) | assumption)
          obtain ⟨ad172, e172, hx172_0⟩ := Kd.at_int HR0.out x3_1 p172 q172
          cases e172
          replace p172 := eq_true p172
          replace q172 := eq_true q172
          have p173 : 0 ≤ (x3_1 : Int) := of_decide_eq_true (by first | (with_reducible assumption) | assumption)
          have q173 : x3_1 < (l0.length : Int) := of_decide_eq_true (by first | (with_reducible assumption) | assumption)
          obtain ⟨ad173, e173, hx173_0⟩ := Kd.at_int HR0.out x3_1 p173 q173
          obtain rfl : ad172 = ad173 := (by injection e173)
          replace p173 := eq_true p173
          replace q173 := eq_true q173
          have p174 : 0 ≤ ((ji6) : Int) := of_decide_eq_true (by first | (with_reducible assumption) | assumption)
          have q174 : (ji6) < (l0.length : Int) := of_decide_eq_true (by first | (with_reducible assumption) | assumption)
          obtain ⟨ad174, e174, hx174_0⟩ := Kd.at_int HR0.out (ji6) p174 q174
          obtain rfl : ad172 = ad174 := (by injection e174)
          replace p174 := eq_true p174
          replace q174 := eq_true q174
          go_wp2
          repeat (go_quiet (fail); try go_wp2)
          go_ret
          exact ⟨by first | rfl | (simp; done) | (simp only [← hji6] <;> (first | rfl | simp)) | (simp [*]; done), by repeat (first | exact Drawn0.refl _ | apply Drawn0.step)⟩
         ·rw [if_neg c9] at H
          have c9b0 : decide ((rd l0 x3_1) ≤ (rd l0 (ji6))) = false := decide_eq_false c9
          clear c9
          have H' := Aside0.mk H
          clear H
          have p172 : 0 ≤ (x3_1 : Int) := of_decide_eq_true (by first | (with_reducible assumption) | assumption)
          have q172 : x3_1 < (l0.length : Int) := of_decide_eq_true (by first | (with_reducible assumption) | assumption)
          obtain ⟨ad172, e172, hx172_0⟩ := Kd.at_int HR0.out x3_1 p172 q172
          cases e172
          replace p172 := eq_true p172
          replace q172 := eq_true q172
          have p173 : 0 ≤ (x3_1 : Int) := of_decide_eq_true (by first | (with_reducible assumption) | assumption)
          have q173 : x3_1 < (l0.length : Int) := of_decide_eq_true (by first | (with_reducible assumption) | assumption)
          obtain ⟨ad173, e173, hx173_0⟩ := Kd.at_int HR0.out x3_1 p173 q173
          obtain rfl : ad172 = ad173 := (by injection e173)
          replace p173 := eq_true p173
          replace q173 := eq_true q173
          have p174 : 0 ≤ ((ji6) : Int) := of_decide_eq_true (by first | (with_reducible assumption) | assumption)
          have q174 : (ji6) < (l0.length : Int) := of_decide_eq_true (by first | (with_reducible assumption) | assumption)
          obtain ⟨ad174, e174, hx174_0⟩ := Kd.at_int HR0.out (ji6) p174 q174
          obtain rfl : ad172 = ad174 := (by injection e174)
          replace p174 := eq_true p174
          replace q174 := eq_true q174
          go_wp2
          repeat (go_quiet (fail); try go_wp2)
          go_roundg k1
          case measure => have := HK1.out; omega
          case rel => exact ⟨(wrap64 (x3_1 + 1)), (by first | rfl | (simp; done) | (simp [*]; done)), H', ⟨by have := HK1.out; omega⟩, by repeat (first | exact Drawn0.refl _ | apply Drawn0.step)⟩
        ·rw [if_neg c8] at H
         exact absurd H (by simp)
       ·rw [if_neg c7] at H
        exact absurd H (by simp)
      ·rw [if_neg c5] at H
       have c5b0 : decide (0 < x3_1) = false := decide_eq_false c5
       clear c5
       have H' := Aside0.mk H
       clear H
       have p172 : 0 ≤ (x3_1 : Int) := of_decide_eq_true (by first | (with_reducible assumption) | assumption)
       have q172 : x3_1 < (l0.length : Int) := of_decide_eq_true (by first | (with_reducible assumption) | assumption)
       obtain ⟨ad172, e172, hx172_0⟩ := Kd.at_int HR0.out x3_1 p172 q172
       cases e172
       replace p172 := eq_true p172
       replace q172 := eq_true q172
       go_wp2
       repeat (go_quiet (fail); try go_wp2)
       go_roundg k1
       case measure => have := HK1.out; omega
       case rel => exact ⟨(wrap64 (x3_1 + 1)), (by first | rfl | (simp; done) | (simp [*]; done)), H', ⟨by have := HK1.out; omega⟩, by repeat (first | exact Drawn0.refl _ | apply Drawn0.step)⟩
    ·rw [if_neg c3] at H
     exact absurd H (by simp)
   ·rw [if_neg c2] at H
    have c2b0 : decide (x3_1 < (l0.length : Int)) = false := decide_eq_false c2
    clear c2
    obtain rfl := Option.some.inj H
    go_wp2
    repeat (go_quiet (fail); try go_wp2)
    go_ret
    exact ⟨by first | rfl | (simp; done) | (simp [*]; done), by repeat (first | exact Drawn0.refl _ | apply Drawn0.step)⟩
end Go.Proofs.YtfonajakaimnoaaDoor.Lib

namespace Go.Proofs.YtfonajakaimnoaaDoor.Lib
open Go.RowKit Go.Proofs.YtfonajakaimnoaaDoorW.PrintWords Go.Proofs.YtfonajakaimnoaaDoorW.PrintLast Go.Proofs.YtfonajakaimnoaaDoorW.PrintMore
attribute [local go_sem] max2_int min2_int max_two min_two max_three min_three max_four min_four   -- for this text's walks alone
set_option linter.unusedVariables false
set_option linter.unusedSimpArgs false
mutual
def caesuraref13_MayBe.j0 : Nat → Int → Int → Bool → Int → List (List Int) → List (List Int) → Option (Bool)
 | 0, _, _, _, _, _, _ => none
 | k + 1, x1, x5, x35, x176000, x176001, x176002 => if x35 = true then (some false) else (caesuraref13_MayBe.l0 k x1 x5 0 x176000 x176001 x176002)
def caesuraref13_MayBe.l0 : Nat → Int → Int → Int → Int → List (List Int) → List (List Int) → Option (Bool)
 | 0, _, _, _, _, _, _ => none
 | k + 1, x1, x5, x6, x176000, x176001, x176002 => if x6 < x5 then (if 0 ≤ x6 then (if x6 < (x176002.length : Int) then ((caesuraref13_rises.f k (rd_L1 x176002 x6)).bind fun t177 => (if x6 < (x176001.length : Int) then (if ((rd_L1 x176001 x6).length : Int) = x1 then (caesuraref13_MayBe.j2 k x1 x5 x6 (!t177) x176000 x176001 x176002) else (caesuraref13_MayBe.j2 k x1 x5 x6 true x176000 x176001 x176002)) else (none))) else (none)) else (none)) else (some true)
def caesuraref13_MayBe.j2 : Nat → Int → Int → Int → Bool → Int → List (List Int) → List (List Int) → Option (Bool)
 | 0, _, _, _, _, _, _, _ => none
 | k + 1, x1, x5, x6, x58, x176000, x176001, x176002 => if x58 = true then (some false) else (caesuraref13_MayBe.l1 k x1 x5 x6 0 x176000 x176001 x176002)
def caesuraref13_MayBe.l1 : Nat → Int → Int → Int → Int → Int → List (List Int) → List (List Int) → Option (Bool)
 | 0, _, _, _, _, _, _, _ => none
 | k + 1, x1, x5, x6, x8, x176000, x176001, x176002 => if x8 < x1 then (if 0 ≤ x6 then (if x6 < (x176001.length : Int) then (if 0 ≤ x8 then (if x8 < ((rd_L1 x176001 x6).length : Int) then (if (rd (rd_L1 x176001 x6) x8) < 0 then (some false) else (if (rd (rd_L1 x176001 x6) x8) ≥ x5 then (some false) else (caesuraref13_MayBe.l1 k x1 x5 x6 (wrap64 (x8 + 1)) x176000 x176001 x176002))) else (none)) else (none)) else (none)) else (none)) else (caesuraref13_MayBe.l0 k x1 x5 (wrap64 (x6 + 1)) x176000 x176001 x176002)
end
def caesuraref13_MayBe.f (k : Nat) (a0_0 : Int) (l0_1 : List (List Int)) (l0_2 : List (List Int)) (a1 : Int) : Option (Bool) := if a1 < 0 then (caesuraref13_MayBe.j0 k a1 (l0_1.length : Int) true a0_0 l0_1 l0_2) else (if (l0_1.length : Int) < 1 then (caesuraref13_MayBe.j0 k a1 (l0_1.length : Int) true a0_0 l0_1 l0_2) else (if (l0_2.length : Int) = (l0_1.length : Int) then (if a0_0 < 0 then (caesuraref13_MayBe.j0 k a1 (l0_1.length : Int) true a0_0 l0_1 l0_2) else (caesuraref13_MayBe.j0 k a1 (l0_1.length : Int) (decide (a0_0 ≥ (l0_1.length : Int))) a0_0 l0_1 l0_2)) else (caesuraref13_MayBe.j0 k a1 (l0_1.length : Int) true a0_0 l0_1 l0_2)))
set_option maxHeartbeats 8000000 in
set_option maxRecDepth 100000 in
theorem caesuraref13_MayBe.calls (k : Nat) (a0_0 : Int) (A0_1 : Option Addr) (c0_1 : Nat) (l0_1 : List (List Int)) (A0_2 : Option Addr) (c0_2 : Nat) (l0_2 : List (List Int)) (a1 : Int) (r : Bool) (w : World) (hr0_1 : Kd.C (Kd.slice 3 (Kd.int .i64)) w A0_1 l0_1.length l0_1) (hc0_1 : l0_1.length ≤ c0_1) (hr0_2 : Kd.C (Kd.slice 3 (Kd.int .i64)) w A0_2 l0_2.length l0_2) (hc0_2 : l0_2.length ≤ c0_2) (h : caesuraref13_MayBe.f k a0_0 l0_1 l0_2 a1 = some r) :
  Calls Tryd.prog 55 #[.agg #[.int .i64 a0_0, .slice A0_1 l0_1.length c0_1, .slice A0_2 l0_2.length c0_2], .int .i64 a1] w fun e w' => e = .returned (.bool r) ∧ Below w.heap.size w w' := by
 have hu24 := Tryd.underlying24
 have HR0_1 := Aside0.mk hr0_1
 have HC0_1 := Aside0.mk hc0_1
 clear hr0_1 hc0_1
 have HR0_2 := Aside0.mk hr0_2
 have HC0_2 := Aside0.mk hc0_2
 clear hr0_2 hc0_2
 have HB := Aside0.mk (Below.refl w.heap.size w)
 have H : (if a1 < 0 then (caesuraref13_MayBe.j0 k a1 (l0_1.length : Int) true a0_0 l0_1 l0_2) else (if (l0_1.length : Int) < 1 then (caesuraref13_MayBe.j0 k a1 (l0_1.length : Int) true a0_0 l0_1 l0_2) else (if (l0_2.length : Int) = (l0_1.length : Int) then (if a0_0 < 0 then (caesuraref13_MayBe.j0 k a1 (l0_1.length : Int) true a0_0 l0_1 l0_2) else (caesuraref13_MayBe.j0 k a1 (l0_1.length : Int) (decide (a0_0 ≥ (l0_1.length : Int))) a0_0 l0_1 l0_2)) else (caesuraref13_MayBe.j0 k a1 (l0_1.length : Int) true a0_0 l0_1 l0_2)))) = some r := h
 clear h
 have HC3 := Aside0.mk H
 clear H
 go_enter Tryd.func55, Tryd.ntmps55
 go_upto_region 2 with (first | ((with_reducible refine gate_dst (N := 2) rfl ?_); (try (refine gate_guard (by rfl) ?_; dsimp only)); refine box_event ?hg (N := 2) ?hd (cs := #[.int .i64 a0_0, .slice A0_1 l0_1.length c0_1, .slice A0_2 l0_2.length c0_2]) (t := 24) ?hr ?_; (case hd => rfl); (case hg => rfl); (case hr => first | (go_simp; done) | (go_simp; rfl)); intro gb175 hg w4 hbox hb; have n0_ := Aside0.mk (below_step (by repeat (first | (with_reducible first | exact HB.out | apply below_alloc | apply pw_below_drewN | apply below_drew1) | exact HB.out)) hb); have n1_ := Aside0.mk (hbox); have n2_ := Aside0.mk ((by rw [hg]; exact (below_size (by repeat (first | (with_reducible first | exact HB.out | apply below_alloc | apply pw_below_drewN | apply below_drew1) | exact HB.out))) : w.heap.size ≤ gb175)); have n3_ := Aside0.mk ((by rw [hg]; exact (below_size (by repeat (first | (with_reducible first | exact HB.out | apply below_alloc | apply pw_below_drewN | apply below_drew1) | exact HB.out))) : w.heap.size ≤ gb175)); clear HB; have HB := n0_; have BK175 := n1_; have GW175 := n2_; have GE175 := n3_; clear n0_ n1_ n2_ n3_; clear hb hbox hg; have hcz5_0 : w4.cell? ⟨gb175, 0, none⟩ = some (.int .i64 a0_0) := (blk_cell BK175.out 0).trans rfl; have hcz5_1 : w4.cell? ⟨gb175, 1, none⟩ = some (.slice A0_1 l0_1.length c0_1) := (blk_cell BK175.out 1).trans rfl; have hcz5_2 : w4.cell? ⟨gb175, 2, none⟩ = some (.slice A0_2 l0_2.length c0_2) := (blk_cell BK175.out 2).trans rfl; have hfz5_0 := blk_frozen BK175.out 0; have hfz5_1 := blk_frozen BK175.out 1; have hfz5_2 := blk_frozen BK175.out 2))
 (try simp only [Act.put, List.setIfInBounds_toArray, List.set_cons_zero, List.set_cons_succ])
 go_cut [35] (fun v35 wc => ∃ (kq : Nat) (x35_2 : Bool), v35 = .bool x35_2 ∧ Aside0 (caesuraref13_MayBe.j0 kq a1 (l0_1.length : Int) x35_2 a0_0 l0_1 l0_2 = some r) ∧ Aside0 (kq ≤ k) ∧ Aside0 (wc.heap[gb175]? = some (.cells #[.int .i64 a0_0, (.slice A0_1 l0_1.length c0_1), (.slice A0_2 l0_2.length c0_2)] 24 (0, 0))) ∧ Aside0 (Below w.heap.size w wc))
 case first =>
  have H := HC3.out
  clear HC3
  by_cases c6 : a1 < 0
  ·rw [if_pos c6] at H
   have c6b0 : decide (a1 < 0) = true := decide_eq_true c6
   clear c6
   (first | rw [c6b0] | (simp only [i64_w, i32_w]; rw [c6b0]) | skip)
   have H' := Aside0.mk H
   clear H
   go_wp2
   go_meet
   case rel => exact ⟨_, (true), (by first | rfl | (simp; done) | (simp [*]; done)), H', ⟨by first | omega | exact Nat.le_refl _⟩, ⟨by (with_reducible repeat (first | refine blk_drewN ?_ _ | refine blk_drew ?_ | refine blk_alloc ?_ _)); exact BK175.out⟩, ⟨by repeat (first | (with_reducible first | exact HB.out | apply below_alloc | apply pw_below_drewN | apply below_drew1 | refine below_set ?_ GE175.out) | exact HB.out)⟩⟩
  ·rw [if_neg c6] at H
   have c6b0 : decide (a1 < 0) = false := decide_eq_false c6
   clear c6
   (first | rw [c6b0] | (simp only [i64_w, i32_w]; rw [c6b0]) | skip)
   by_cases c7 : (l0_1.length : Int) < 1
   ·rw [if_pos c7] at H
    have c7b0 : decide ((l0_1.length : Int) < 1) = true := decide_eq_true c7
    have c7b1 : decide (l0_1.length < 1) = true := decide_eq_true (by omega)
    clear c7
    have H' := Aside0.mk H
    clear H
    go_wp2
    go_meet
    case rel => exact ⟨_, (true), (by first | rfl | (simp; done) | (simp [*]; done)), H', ⟨by first | omega | exact Nat.le_refl _⟩, ⟨by (with_reducible repeat (first | refine blk_drewN ?_ _ | refine blk_drew ?_ | refine blk_alloc ?_ _)); exact BK175.out⟩, ⟨by repeat (first | (with_reducible first | exact HB.out | apply below_alloc | apply pw_below_drewN | apply below_drew1 | refine below_set ?_ GE175.out) | exact HB.out)⟩⟩
   ·rw [if_neg c7] at H
    have c7b0 : decide ((l0_1.length : Int) < 1) = false := decide_eq_false c7
    have c7b1 : decide (l0_1.length < 1) = false := decide_eq_false (by omega)
    clear c7
    by_cases c8 : (l0_2.length : Int) = (l0_1.length : Int)
    ·rw [if_pos c8] at H
     have c8b0 : ((l0_2.length : Int) == (l0_1.length : Int)) = true := beq_iff_eq.mpr c8
     have c8b1 : ((l0_2.length : Int) != (l0_1.length : Int)) = false := bne_eq_false_iff_eq.mpr c8
     have c8b2 : (l0_2.length == l0_1.length) = true := by first | simpa using c8 | (simp at c8 ⊢; omega)
     clear c8
     by_cases c9 : a0_0 < 0
     ·rw [if_pos c9] at H
      have c9b0 : decide (a0_0 < 0) = true := decide_eq_true c9
      clear c9
      have H' := Aside0.mk H
      clear H
      have hcz10_0 : w4.cell? ⟨gb175, 0, none⟩ = some (.int .i64 a0_0) := (blk_cell BK175.out 0).trans rfl
      have hcz10_1 : w4.cell? ⟨gb175, 1, none⟩ = some (.slice A0_1 l0_1.length c0_1) := (blk_cell BK175.out 1).trans rfl
      have hcz10_2 : w4.cell? ⟨gb175, 2, none⟩ = some (.slice A0_2 l0_2.length c0_2) := (blk_cell BK175.out 2).trans rfl
      have hfz10_0 := blk_frozen BK175.out 0
      have hfz10_1 := blk_frozen BK175.out 1
      have hfz10_2 := blk_frozen BK175.out 2
      go_wp2
      go_meet
      case rel => exact ⟨_, (true), (by first | rfl | (simp; done) | (simp [*]; done)), H', ⟨by first | omega | exact Nat.le_refl _⟩, ⟨by (with_reducible repeat (first | refine blk_drewN ?_ _ | refine blk_drew ?_ | refine blk_alloc ?_ _)); exact BK175.out⟩, ⟨by repeat (first | (with_reducible first | exact HB.out | apply below_alloc | apply pw_below_drewN | apply below_drew1 | refine below_set ?_ GE175.out) | exact HB.out)⟩⟩
     ·rw [if_neg c9] at H
      have c9b0 : decide (a0_0 < 0) = false := decide_eq_false c9
      clear c9
      have H' := Aside0.mk H
      clear H
      have hcz11_0 : w4.cell? ⟨gb175, 0, none⟩ = some (.int .i64 a0_0) := (blk_cell BK175.out 0).trans rfl
      have hcz11_1 : w4.cell? ⟨gb175, 1, none⟩ = some (.slice A0_1 l0_1.length c0_1) := (blk_cell BK175.out 1).trans rfl
      have hcz11_2 : w4.cell? ⟨gb175, 2, none⟩ = some (.slice A0_2 l0_2.length c0_2) := (blk_cell BK175.out 2).trans rfl
      have hfz11_0 := blk_frozen BK175.out 0
      have hfz11_1 := blk_frozen BK175.out 1
      have hfz11_2 := blk_frozen BK175.out 2
      go_wp2
      go_meet
      case rel => exact ⟨_, (decide (a0_0 ≥ (l0_1.length : Int))), (by first | rfl | (simp; done) | (simp [*]; done)), H', ⟨by first | omega | exact Nat.le_refl _⟩, ⟨by (with_reducible repeat (first | refine blk_drewN ?_ _ | refine blk_drew ?_ | refine blk_alloc ?_ _)); exact BK175.out⟩, ⟨by repeat (first | (with_reducible first | exact HB.out | apply below_alloc | apply pw_below_drewN | apply below_drew1 | refine below_set ?_ GE175.out) | exact HB.out)⟩⟩
    ·rw [if_neg c8] at H
     have c8b0 : ((l0_2.length : Int) == (l0_1.length : Int)) = false := beq_eq_false_iff_ne.mpr c8
     have c8b1 : ((l0_2.length : Int) != (l0_1.length : Int)) = true := bne_iff_ne.mpr c8
     have c8b2 : (l0_2.length == l0_1.length) = false := by first | simpa using c8 | (simp at c8 ⊢; omega)
     have H' := Aside0.mk H
     clear H
     have hcz12_0 : w4.cell? ⟨gb175, 0, none⟩ = some (.int .i64 a0_0) := (blk_cell BK175.out 0).trans rfl
     have hcz12_1 : w4.cell? ⟨gb175, 1, none⟩ = some (.slice A0_1 l0_1.length c0_1) := (blk_cell BK175.out 1).trans rfl
     have hcz12_2 : w4.cell? ⟨gb175, 2, none⟩ = some (.slice A0_2 l0_2.length c0_2) := (blk_cell BK175.out 2).trans rfl
     have hfz12_0 := blk_frozen BK175.out 0
     have hfz12_1 := blk_frozen BK175.out 1
     have hfz12_2 := blk_frozen BK175.out 2
     go_wp2
     go_meet
     case rel => exact ⟨_, (true), (by first | rfl | (simp; done) | (simp [*]; done)), H', ⟨by first | omega | exact Nat.le_refl _⟩, ⟨by (with_reducible repeat (first | refine blk_drewN ?_ _ | refine blk_drew ?_ | refine blk_alloc ?_ _)); exact BK175.out⟩, ⟨by repeat (first | (with_reducible first | exact HB.out | apply below_alloc | apply pw_below_drewN | apply below_drew1 | refine below_set ?_ GE175.out) | exact HB.out)⟩⟩
 case rest =>
  clear HC3
  try clear p2
  try clear c5
  try clear c6
  try clear c6b0
  try clear c7
  try clear c7b0
  try clear c7b1
  try clear c8
  try clear c8b0
  try clear c8b1
  try clear c8b2
  try clear c9
  try clear c9b0
  try clear hcz10_0
  try clear hcz10_1
  try clear hcz10_2
  try clear hcz11_0
  try clear hcz11_1
  try clear hcz11_2
  try clear hcz12_0
  try clear hcz12_1
  try clear hcz12_2
  try clear hcz5_0
  try clear hcz5_1
  try clear hcz5_2
  try clear hfz10_0
  try clear hfz10_1
  try clear hfz10_2
  try clear hfz11_0
  try clear hfz11_1
  try clear hfz11_2
  try clear hfz12_0
  try clear hfz12_1
  try clear hfz12_2
  try clear hfz5_0
  try clear hfz5_1
  try clear hfz5_2
  obtain ⟨kq, x35_2, rfl, HA, HJ2, BK175, HB⟩ := hcut
  cases kq with
  | zero => exact absurd HA.out (by simp [caesuraref13_MayBe.j0])
  | succ kj2 =>
   have H := HA.out
   clear HA
   simp only [caesuraref13_MayBe.j0] at H
   by_cases c13 : x35_2 = true
   ·subst c13
    have H1 : (some false) = some r := by rw [if_pos rfl] at H; exact H
    clear H
    have H := H1
    clear H1
    obtain rfl := Option.some.inj H
    go_wp2
    go_ret
    exact ⟨by first | rfl | (simp [errW_none, errW_some] <;> rfl) | (simp [*, errW_none, errW_some] <;> rfl), by repeat (first | (with_reducible first | exact HB.out | apply below_alloc | apply pw_below_drewN | apply below_drew1 | refine below_set ?_ GE175.out) | exact HB.out)⟩
   ·replace c13 := Bool.eq_false_iff.mpr c13
    subst c13
    have H1 : (caesuraref13_MayBe.l0 kj2 a1 (l0_1.length : Int) 0 a0_0 l0_1 l0_2) = some r := by rw [if_neg (show ¬ (false = true) by decide)] at H; exact H
    clear H
    have H := H1
    clear H1
    have H' := Aside0.mk H
    clear H
    go_wp2
    go_loopg [6] kj2 (fun kq v6 w' => ∃ (x6_2 : Int), v6 = .int .i64 x6_2 ∧ Aside0 (caesuraref13_MayBe.l0 kq a1 (l0_1.length : Int) x6_2 a0_0 l0_1 l0_2 = some r) ∧ Aside0 (kq ≤ kj2) ∧ Aside0 (w'.heap[gb175]? = some (.cells #[.int .i64 a0_0, (.slice A0_1 l0_1.length c0_1), (.slice A0_2 l0_2.length c0_2)] 24 (0, 0))) ∧ Aside0 (Below w.heap.size w w'))
    case atStart => exact ⟨(0), (by first | rfl | (simp; done) | (simp [*]; done)), H', ⟨Nat.le_refl _⟩, ⟨by (with_reducible repeat (first | refine blk_drewN ?_ _ | refine blk_drew ?_ | refine blk_alloc ?_ _)); exact BK175.out⟩, ⟨by repeat (first | (with_reducible first | exact HB.out | apply below_alloc | apply pw_below_drewN | apply below_drew1 | refine below_set ?_ GE175.out) | exact HB.out)⟩⟩
    case round =>
     clear H'
     try clear c1
     try clear p2
     try clear c5
     try clear c6
     try clear c6b0
     try clear c7
     try clear c7b0
     try clear c7b1
     try clear c8
     try clear c8b0
     try clear c8b1
     try clear c8b2
     try clear c9
     try clear c9b0
     try clear c13
     try clear hcz10_0
     try clear hcz10_1
     try clear hcz10_2
     try clear hcz11_0
     try clear hcz11_1
     try clear hcz11_2
     try clear hcz12_0
     try clear hcz12_1
     try clear hcz12_2
     try clear hcz5_0
     try clear hcz5_1
     try clear hcz5_2
     try clear hfz10_0
     try clear hfz10_1
     try clear hfz10_2
     try clear hfz11_0
     try clear hfz11_1
     try clear hfz11_2
     try clear hfz12_0
     try clear hfz12_1
     try clear hfz12_2
     try clear hfz5_0
     try clear hfz5_1
     try clear hfz5_2
     try clear p2
     obtain ⟨x6_2, rfl, HA, HK2, BK175, HB⟩ := hrel
     cases gk with
     | zero => exact absurd HA.out (by simp [caesuraref13_MayBe.l0])
     | succ k2 =>
      have H := HA.out
      clear HA
      simp only [caesuraref13_MayBe.l0] at H
      by_cases c14 : x6_2 < (l0_1.length : Int)
      ·rw [if_pos c14] at H
       have c14b0 : decide (x6_2 < (l0_1.length : Int)) = true := decide_eq_true c14
       clear c14
       by_cases c15 : 0 ≤ x6_2
       ·rw [if_pos c15] at H
        have c15b0 : decide (0 ≤ x6_2) = true := decide_eq_true c15
        clear c15
        by_cases c16 : x6_2 < (l0_2.length : Int)
        ·rw [if_pos c16] at H
         have c16b0 : decide (x6_2 < (l0_2.length : Int)) = true := decide_eq_true c16
         clear c16
         replace H := Option.bind_eq_some_iff.mp H
         obtain ⟨t177, A170, H⟩ := H
         replace H : (if x6_2 < (l0_1.length : Int) then (if ((rd_L1 l0_1 x6_2).length : Int) = a1 then (caesuraref13_MayBe.j2 k2 a1 (l0_1.length : Int) x6_2 (!t177) a0_0 l0_1 l0_2) else (caesuraref13_MayBe.j2 k2 a1 (l0_1.length : Int) x6_2 true a0_0 l0_1 l0_2)) else (none)) = some r := H
         have A17 := Aside0.mk A170
         clear A170
         have HC18 := Aside0.mk H
         clear H
         have hcz19_0 : wr.cell? ⟨gb175, 0, none⟩ = some (.int .i64 a0_0) := (blk_cell BK175.out 0).trans rfl
         have hcz19_1 : wr.cell? ⟨gb175, 1, none⟩ = some (.slice A0_1 l0_1.length c0_1) := (blk_cell BK175.out 1).trans rfl
         have hcz19_2 : wr.cell? ⟨gb175, 2, none⟩ = some (.slice A0_2 l0_2.length c0_2) := (blk_cell BK175.out 2).trans rfl
         have hfz19_0 := blk_frozen BK175.out 0
         have hfz19_1 := blk_frozen BK175.out 1
         have hfz19_2 := blk_frozen BK175.out 2
         have p176 : 0 ≤ (x6_2 : Int) := of_decide_eq_true (by first | (with_reducible assumption) | assumption)
         have q176 : x6_2 < (l0_2.length : Int) := of_decide_eq_true (by first | (with_reducible assumption) | assumption)
         obtain ⟨ad176, A176_0, c176_0, e176, hx176_0, hl176_0, hi176_0⟩ := at_L1 HR0_2.out x6_2 p176 q176
         cases e176
         replace hx176_0 := (HB.out.cell (World.block_lt_of_cell? w _ hx176_0)).trans hx176_0
         have HR176_0 := Aside0.mk hi176_0
         have HC176_0 := Aside0.mk hl176_0
         clear hi176_0 hl176_0
         replace p176 := eq_true p176
         replace q176 := eq_true q176
         go_upto_region 8 with (first | ((with_reducible refine gate_callee (f := 106) rfl ?_); refine goesL_ (some 46) rfl rfl Tryd.func106 (by kernel_rfl) rfl #[.slice A176_0 (rd_L1 l0_2 x6_2).length c176_0] rfl (by (try simp only [List.map_toArray, List.map_cons, List.map_nil]); first | done | rfl | (simp only [List.length_drop, List.length_take]; rfl)) ?_; (with_reducible refine (caesuraref13_rises.calls k2 _ _ (rd_L1 l0_2 x6_2) t177 _ ?side1 ?side2 A17.out).mono ?_); (case side1 => repeat (first | exact (Kd.C_below HR176_0.out HB.out) | (with_reducible refine Kd.C_alloc ?_ _) | (with_reducible refine Kd.C_drewN ?_ _) | (with_reducible refine Kd.C_drew ?_))); (case side2 => exact HC176_0.out); rintro e w' ⟨rfl, ⟨nd, rfl⟩⟩; refine ⟨_, rfl, ?_⟩))
         (try simp only [Act.put, List.setIfInBounds_toArray, List.set_cons_zero, List.set_cons_succ])
         go_cut [58] (fun v58 wc => ∃ (kq : Nat) (x58_17 : Bool), v58 = .bool x58_17 ∧ Aside0 (caesuraref13_MayBe.j2 kq a1 (l0_1.length : Int) x6_2 x58_17 a0_0 l0_1 l0_2 = some r) ∧ Aside0 (kq ≤ k2) ∧ Aside0 (wc.heap[gb175]? = some (.cells #[.int .i64 a0_0, (.slice A0_1 l0_1.length c0_1), (.slice (some ad176) l0_2.length c0_2)] 24 (0, 0))) ∧ Aside0 (Below w.heap.size w wc))
         case first =>
          have H := HC18.out
          clear HC18
          by_cases c20 : x6_2 < (l0_1.length : Int)
          ·rw [if_pos c20] at H
           have c20b0 : decide (x6_2 < (l0_1.length : Int)) = true := decide_eq_true c20
           clear c20
           (first | rw [c20b0] | (simp only [i64_w, i32_w]; rw [c20b0]) | skip)
           by_cases c21 : ((rd_L1 l0_1 x6_2).length : Int) = a1
           ·rw [if_pos c21] at H
            have c21b0 : (((rd_L1 l0_1 x6_2).length : Int) == a1) = true := beq_iff_eq.mpr c21
            have c21b1 : (((rd_L1 l0_1 x6_2).length : Int) != a1) = false := bne_eq_false_iff_eq.mpr c21
            clear c21
            have H' := Aside0.mk H
            clear H
            have hcz22_0 : wr.cell? ⟨gb175, 0, none⟩ = some (.int .i64 a0_0) := (blk_cell BK175.out 0).trans rfl
            have hcz22_1 : wr.cell? ⟨gb175, 1, none⟩ = some (.slice A0_1 l0_1.length c0_1) := (blk_cell BK175.out 1).trans rfl
            have hcz22_2 : wr.cell? ⟨gb175, 2, none⟩ = some (.slice (some ad176) l0_2.length c0_2) := (blk_cell BK175.out 2).trans rfl
            have hfz22_0 := blk_frozen BK175.out 0
            have hfz22_1 := blk_frozen BK175.out 1
            have hfz22_2 := blk_frozen BK175.out 2
            have p178 : 0 ≤ (x6_2 : Int) := of_decide_eq_true (by first | (with_reducible assumption) | assumption)
            have q178 : x6_2 < (l0_1.length : Int) := of_decide_eq_true (by first | (with_reducible assumption) | assumption)
            obtain ⟨ad178, A178_0, c178_0, e178, hx178_0, hl178_0, hi178_0⟩ := at_L1 HR0_1.out x6_2 p178 q178
            cases e178
            replace hx178_0 := (HB.out.cell (World.block_lt_of_cell? w _ hx178_0)).trans hx178_0
            have HR178_0 := Aside0.mk hi178_0
            have HC178_0 := Aside0.mk hl178_0
            clear hi178_0 hl178_0
            replace p178 := eq_true p178
            replace q178 := eq_true q178
            go_wp2
            go_meet
            case rel => exact ⟨_, (!t177), (by first | rfl | (simp; done) | (simp [*]; done)), H', ⟨by have := HJ2.out; have := HK2.out; first | omega | exact Nat.le_refl _⟩, ⟨by (with_reducible repeat (first | refine blk_drewN ?_ _ | refine blk_drew ?_ | refine blk_alloc ?_ _)); exact BK175.out⟩, ⟨by repeat (first | (with_reducible first | exact HB.out | apply below_alloc | apply pw_below_drewN | apply below_drew1 | refine below_set ?_ GE175.out) | exact HB.out)⟩⟩
           ·rw [if_neg c21] at H
            have c21b0 : (((rd_L1 l0_1 x6_2).length : Int) == a1) = false := beq_eq_false_iff_ne.mpr c21
            have c21b1 : (((rd_L1 l0_1 x6_2).length : Int) != a1) = true := bne_iff_ne.mpr c21
            have H' := Aside0.mk H
            clear H
            have hcz23_0 : wr.cell? ⟨gb175, 0, none⟩ = some (.int .i64 a0_0) := (blk_cell BK175.out 0).trans rfl
            have hcz23_1 : wr.cell? ⟨gb175, 1, none⟩ = some (.slice A0_1 l0_1.length c0_1) := (blk_cell BK175.out 1).trans rfl
            have hcz23_2 : wr.cell? ⟨gb175, 2, none⟩ = some (.slice (some ad176) l0_2.length c0_2) := (blk_cell BK175.out 2).trans rfl
            have hfz23_0 := blk_frozen BK175.out 0
            have hfz23_1 := blk_frozen BK175.out 1
            have hfz23_2 := blk_frozen BK175.out 2
            have p178 : 0 ≤ (x6_2 : Int) := of_decide_eq_true (by first | (with_reducible assumption) | assumption)
            have q178 : x6_2 < (l0_1.length : Int) := of_decide_eq_true (by first | (with_reducible assumption) | assumption)
            obtain ⟨ad178, A178_0, c178_0, e178, hx178_0, hl178_0, hi178_0⟩ := at_L1 HR0_1.out x6_2 p178 q178
            cases e178
            replace hx178_0 := (HB.out.cell (World.block_lt_of_cell? w _ hx178_0)).trans hx178_0
            have HR178_0 := Aside0.mk hi178_0
            have HC178_0 := Aside0.mk hl178_0
            clear hi178_0 hl178_0
            replace p178 := eq_true p178
            replace q178 := eq_true q178
            go_wp2
            go_meet
            case rel => exact ⟨_, (true), (by first | rfl | (simp; done) | (simp [*]; done)), H', ⟨by have := HJ2.out; have := HK2.out; first | omega | exact Nat.le_refl _⟩, ⟨by (with_reducible repeat (first | refine blk_drewN ?_ _ | refine blk_drew ?_ | refine blk_alloc ?_ _)); exact BK175.out⟩, ⟨by repeat (first | (with_reducible first | exact HB.out | apply below_alloc | apply pw_below_drewN | apply below_drew1 | refine below_set ?_ GE175.out) | exact HB.out)⟩⟩
          ·rw [if_neg c20] at H
           exact absurd H (by simp)
         case rest =>
          clear HC18
          try clear c1
          try clear p1
          try clear q1
          try clear hx1
          try clear c2
          try clear p2
          try clear c5
          try clear c6
          try clear c6b0
          try clear c7
          try clear c7b0
          try clear c7b1
          try clear c8
          try clear c8b0
          try clear c8b1
          try clear c8b2
          try clear c9
          try clear c9b0
          try clear c10
          try clear c13
          try clear c14
          try clear c14b0
          try clear c15
          try clear c15b0
          try clear c16
          try clear c16b0
          try clear c17
          try clear p17
          try clear q17
          try clear hx17
          try clear c20
          try clear c20b0
          try clear c21
          try clear c21b0
          try clear c21b1
          try clear hcz10_0
          try clear hcz10_1
          try clear hcz10_2
          try clear hcz11_0
          try clear hcz11_1
          try clear hcz11_2
          try clear hcz12_0
          try clear hcz12_1
          try clear hcz12_2
          try clear hcz19_0
          try clear hcz19_1
          try clear hcz19_2
          try clear hcz22_0
          try clear hcz22_1
          try clear hcz22_2
          try clear hcz23_0
          try clear hcz23_1
          try clear hcz23_2
          try clear hcz5_0
          try clear hcz5_1
          try clear hcz5_2
          try clear hfz10_0
          try clear hfz10_1
          try clear hfz10_2
          try clear hfz11_0
          try clear hfz11_1
          try clear hfz11_2
          try clear hfz12_0
          try clear hfz12_1
          try clear hfz12_2
          try clear hfz19_0
          try clear hfz19_1
          try clear hfz19_2
          try clear hfz22_0
          try clear hfz22_1
          try clear hfz22_2
          try clear hfz23_0
          try clear hfz23_1
          try clear hfz23_2
          try clear hfz5_0
          try clear hfz5_1
          try clear hfz5_2
          try clear hx176_0
          try clear hx178_0
          try clear p176
          try clear p178
          try clear p2
          try clear q176
          try clear q178
          obtain ⟨kq, x58_17, rfl, HA, HJ17, BK175, HB⟩ := hcut
          cases kq with
          | zero => exact absurd HA.out (by simp [caesuraref13_MayBe.j2])
          | succ kj17 =>
           have H := HA.out
           clear HA
           simp only [caesuraref13_MayBe.j2] at H
           by_cases c24 : x58_17 = true
           ·subst c24
            have H1 : (some false) = some r := by rw [if_pos rfl] at H; exact H
            clear H
            have H := H1
            clear H1
            obtain rfl := Option.some.inj H
            go_wp2
            go_ret
            exact ⟨by first | rfl | (simp [errW_none, errW_some] <;> rfl) | (simp [*, errW_none, errW_some] <;> rfl), by repeat (first | (with_reducible first | exact HB.out | apply below_alloc | apply pw_below_drewN | apply below_drew1 | refine below_set ?_ GE175.out) | exact HB.out)⟩
           ·replace c24 := Bool.eq_false_iff.mpr c24
            subst c24
            have H1 : (caesuraref13_MayBe.l1 kj17 a1 (l0_1.length : Int) x6_2 0 a0_0 l0_1 l0_2) = some r := by rw [if_neg (show ¬ (false = true) by decide)] at H; exact H
            clear H
            have H := H1
            clear H1
            have H' := Aside0.mk H
            clear H
            go_wp2
            go_loopg [8] kj17 (fun kq v8 w' => ∃ (x8_4 : Int), v8 = .int .i64 x8_4 ∧ Aside0 (caesuraref13_MayBe.l1 kq a1 (l0_1.length : Int) x6_2 x8_4 a0_0 l0_1 l0_2 = some r) ∧ Aside0 (kq ≤ kj17) ∧ Aside0 (w'.heap[gb175]? = some (.cells #[.int .i64 a0_0, (.slice A0_1 l0_1.length c0_1), (.slice (some ad176) l0_2.length c0_2)] 24 (0, 0))) ∧ Aside0 (Below w.heap.size w w'))
            case atStart => exact ⟨(0), (by first | rfl | (simp; done) | (simp [*]; done)), H', ⟨Nat.le_refl _⟩, ⟨by (with_reducible repeat (first | refine blk_drewN ?_ _ | refine blk_drew ?_ | refine blk_alloc ?_ _)); exact BK175.out⟩, ⟨by repeat (first | (with_reducible first | exact HB.out | apply below_alloc | apply pw_below_drewN | apply below_drew1 | refine below_set ?_ GE175.out) | exact HB.out)⟩⟩
            case round =>
             clear H'
             try clear c1
             try clear p1
             try clear q1
             try clear hx1
             try clear c2
             try clear p2
             try clear c5
             try clear c6
             try clear c6b0
             try clear c7
             try clear c7b0
             try clear c7b1
             try clear c8
             try clear c8b0
             try clear c8b1
             try clear c8b2
             try clear c9
             try clear c9b0
             try clear c10
             try clear c13
             try clear c14
             try clear c14b0
             try clear c15
             try clear c15b0
             try clear c16
             try clear c16b0
             try clear c17
             try clear p17
             try clear q17
             try clear hx17
             try clear c20
             try clear c20b0
             try clear c21
             try clear c21b0
             try clear c21b1
             try clear c24
             try clear hcz10_0
             try clear hcz10_1
             try clear hcz10_2
             try clear hcz11_0
             try clear hcz11_1
             try clear hcz11_2
             try clear hcz12_0
             try clear hcz12_1
             try clear hcz12_2
             try clear hcz19_0
             try clear hcz19_1
             try clear hcz19_2
             try clear hcz22_0
             try clear hcz22_1
             try clear hcz22_2
             try clear hcz23_0
             try clear hcz23_1
             try clear hcz23_2
             try clear hcz5_0
             try clear hcz5_1
             try clear hcz5_2
             try clear hfz10_0
             try clear hfz10_1
             try clear hfz10_2
             try clear hfz11_0
             try clear hfz11_1
             try clear hfz11_2
             try clear hfz12_0
             try clear hfz12_1
             try clear hfz12_2
             try clear hfz19_0
             try clear hfz19_1
             try clear hfz19_2
             try clear hfz22_0
             try clear hfz22_1
             try clear hfz22_2
             try clear hfz23_0
             try clear hfz23_1
             try clear hfz23_2
             try clear hfz5_0
             try clear hfz5_1
             try clear hfz5_2
             try clear hx176_0
             try clear hx178_0
             try clear p1
             try clear p17
             try clear p176
             try clear p178
             try clear p2
             try clear q1
             try clear q17
             try clear q176
             try clear q178
             obtain ⟨x8_4, rfl, HA, HK4, BK175, HB⟩ := hrel
             cases gk with
             | zero => exact absurd HA.out (by simp [caesuraref13_MayBe.l1])
             | succ k4 =>
              have H := HA.out
              clear HA
              simp only [caesuraref13_MayBe.l1] at H
              by_cases c25 : x8_4 < a1
              ·rw [if_pos c25] at H
               have c25b0 : decide (x8_4 < a1) = true := decide_eq_true c25
               clear c25
               by_cases c26 : 0 ≤ x6_2
               ·rw [if_pos c26] at H
                have c26b0 : decide (0 ≤ x6_2) = true := decide_eq_true c26
                clear c26
                by_cases c27 : x6_2 < (l0_1.length : Int)
                ·rw [if_pos c27] at H
                 have c27b0 : decide (x6_2 < (l0_1.length : Int)) = true := decide_eq_true c27
                 clear c27
                 by_cases c28 : 0 ≤ x8_4
                 ·rw [if_pos c28] at H
                  have c28b0 : decide (0 ≤ x8_4) = true := decide_eq_true c28
                  clear c28
                  by_cases c29 : x8_4 < ((rd_L1 l0_1 x6_2).length : Int)
                  ·rw [if_pos c29] at H
                   have c29b0 : decide (x8_4 < ((rd_L1 l0_1 x6_2).length : Int)) = true := decide_eq_true c29
                   clear c29
                   by_cases c30 : (rd (rd_L1 l0_1 x6_2) x8_4) < 0
                   ·rw [if_pos c30] at H
                    have c30b0 : decide ((rd (rd_L1 l0_1 x6_2) x8_4) < 0) = true := decide_eq_true c30
                    clear c30
                    obtain rfl := Option.some.inj H
                    have hcz31_0 : wr.cell? ⟨gb175, 0, none⟩ = some (.int .i64 a0_0) := (blk_cell BK175.out 0).trans rfl
                    have hcz31_1 : wr.cell? ⟨gb175, 1, none⟩ = some (.slice A0_1 l0_1.length c0_1) := (blk_cell BK175.out 1).trans rfl
                    have hcz31_2 : wr.cell? ⟨gb175, 2, none⟩ = some (.slice (some ad176) l0_2.length c0_2) := (blk_cell BK175.out 2).trans rfl
                    have hfz31_0 := blk_frozen BK175.out 0
                    have hfz31_1 := blk_frozen BK175.out 1
                    have hfz31_2 := blk_frozen BK175.out 2
                    have p179 : 0 ≤ (x6_2 : Int) := of_decide_eq_true (by first | (with_reducible assumption) | assumption)
                    have q179 : x6_2 < (l0_1.length : Int) := of_decide_eq_true (by first | (with_reducible assumption) | assumption)
                    obtain ⟨ad179, A179_0, c179_0, e179, hx179_0, hl179_0, hi179_0⟩ := at_L1 HR0_1.out x6_2 p179 q179
                    cases e179
                    replace hx179_0 := (HB.out.cell (World.block_lt_of_cell? w _ hx179_0)).trans hx179_0
                    have HR179_0 := Aside0.mk hi179_0
                    have HC179_0 := Aside0.mk hl179_0
                    clear hi179_0 hl179_0
                    replace p179 := eq_true p179
                    replace q179 := eq_true q179
                    have p180 : 0 ≤ (x8_4 : Int) := of_decide_eq_true (by first | (with_reducible assumption) | assumption)
                    have q180 : x8_4 < ((rd_L1 l0_1 x6_2).length : Int) := of_decide_eq_true (by first | (with_reducible assumption) | assumption)
                    obtain ⟨ad180, e180, hx180_0⟩ := Kd.at_int HR179_0.out x8_4 p180 q180
                    cases e180
                    replace hx180_0 := (HB.out.cell (World.block_lt_of_cell? w _ hx180_0)).trans hx180_0
                    replace p180 := eq_true p180
                    replace q180 := eq_true q180
                    go_wp2
                    go_ret
                    exact ⟨by first | rfl | (simp [errW_none, errW_some] <;> rfl) | (simp [*, errW_none, errW_some] <;> rfl), by repeat (first | (with_reducible first | exact HB.out | apply below_alloc | apply pw_below_drewN | apply below_drew1 | refine below_set ?_ GE175.out) | exact HB.out)⟩
                   ·rw [if_neg c30] at H
                    have c30b0 : decide ((rd (rd_L1 l0_1 x6_2) x8_4) < 0) = false := decide_eq_false c30
                    clear c30
                    by_cases c32 : (rd (rd_L1 l0_1 x6_2) x8_4) ≥ (l0_1.length : Int)
                    ·rw [if_pos c32] at H
                     have c32b0 : decide ((l0_1.length : Int) ≤ (rd (rd_L1 l0_1 x6_2) x8_4)) = true := decide_eq_true c32
                     clear c32
                     obtain rfl := Option.some.inj H
                     have hcz33_0 : wr.cell? ⟨gb175, 0, none⟩ = some (.int .i64 a0_0) := (blk_cell BK175.out 0).trans rfl
                     have hcz33_1 : wr.cell? ⟨gb175, 1, none⟩ = some (.slice A0_1 l0_1.length c0_1) := (blk_cell BK175.out 1).trans rfl
                     have hcz33_2 : wr.cell? ⟨gb175, 2, none⟩ = some (.slice (some ad176) l0_2.length c0_2) := (blk_cell BK175.out 2).trans rfl
                     have hfz33_0 := blk_frozen BK175.out 0
                     have hfz33_1 := blk_frozen BK175.out 1
                     have hfz33_2 := blk_frozen BK175.out 2
                     have p179 : 0 ≤ (x6_2 : Int) := of_decide_eq_true (by first | (with_reducible assumption) | assumption)
                     have q179 : x6_2 < (l0_1.length : Int) := of_decide_eq_true (by first | (with_reducible assumption) | assumption)
                     obtain ⟨ad179, A179_0, c179_0, e179, hx179_0, hl179_0, hi179_0⟩ := at_L1 HR0_1.out x6_2 p179 q179
                     cases e179
                     replace hx179_0 := (HB.out.cell (World.block_lt_of_cell? w _ hx179_0)).trans hx179_0
                     have HR179_0 := Aside0.mk hi179_0
                     have HC179_0 := Aside0.mk hl179_0
                     clear hi179_0 hl179_0
                     replace p179 := eq_true p179
                     replace q179 := eq_true q179
                     have p180 : 0 ≤ (x8_4 : Int) := of_decide_eq_true (by first | (with_reducible assumption) | assumption)
                     have q180 : x8_4 < ((rd_L1 l0_1 x6_2).length : Int) := of_decide_eq_true (by first | (with_reducible assumption) | assumption)
                     obtain ⟨ad180, e180, hx180_0⟩ := Kd.at_int HR179_0.out x8_4 p180 q180
                     cases e180
                     replace hx180_0 := (HB.out.cell (World.block_lt_of_cell? w _ hx180_0)).trans hx180_0
                     replace p180 := eq_true p180
                     replace q180 := eq_true q180
                     have p181 : 0 ≤ (x6_2 : Int) := of_decide_eq_true (by first | (with_reducible assumption) | assumption)
                     have q181 : x6_2 < (l0_1.length : Int) := of_decide_eq_true (by first | (with_reducible assumption) | assumption)
                     obtain ⟨ad181, A181_0, c181_0, e181, hx181_0, hl181_0, hi181_0⟩ := at_L1 HR0_1.out x6_2 p181 q181
                     obtain rfl : ad179 = ad181 := (by injection e181)
                     replace hx181_0 := (HB.out.cell (World.block_lt_of_cell? w _ hx181_0)).trans hx181_0
                     have HR181_0 := Aside0.mk hi181_0
                     have HC181_0 := Aside0.mk hl181_0
                     clear hi181_0 hl181_0
                     replace p181 := eq_true p181
                     replace q181 := eq_true q181
                     have ea_ := Option.some.inj (hx179_0.symm.trans hx181_0)
                     injection ea_ with ea_ en_ ec_
                     subst ea_
                     subst ec_
                     clear en_
                     have p182 : 0 ≤ (x8_4 : Int) := of_decide_eq_true (by first | (with_reducible assumption) | assumption)
                     have q182 : x8_4 < ((rd_L1 l0_1 x6_2).length : Int) := of_decide_eq_true (by first | (with_reducible assumption) | assumption)
                     obtain ⟨ad182, e182, hx182_0⟩ := Kd.at_int HR181_0.out x8_4 p182 q182
                     cases e182
                     replace hx182_0 := (HB.out.cell (World.block_lt_of_cell? w _ hx182_0)).trans hx182_0
                     replace p182 := eq_true p182
                     replace q182 := eq_true q182
                     go_wp2
                     go_ret
                     exact ⟨by first | rfl | (simp [errW_none, errW_some] <;> rfl) | (simp [*, errW_none, errW_some] <;> rfl), by repeat (first | (with_reducible first | exact HB.out | apply below_alloc | apply pw_below_drewN | apply below_drew1 | refine below_set ?_ GE175.out) | exact HB.out)⟩
                    ·rw [if_neg c32] at H
                     have c32b0 : decide ((l0_1.length : Int) ≤ (rd (rd_L1 l0_1 x6_2) x8_4)) = false := decide_eq_false c32
                     clear c32
                     have H' := Aside0.mk H
                     clear H
                     have hcz34_0 : wr.cell? ⟨gb175, 0, none⟩ = some (.int .i64 a0_0) := (blk_cell BK175.out 0).trans rfl
                     have hcz34_1 : wr.cell? ⟨gb175, 1, none⟩ = some (.slice A0_1 l0_1.length c0_1) := (blk_cell BK175.out 1).trans rfl
                     have hcz34_2 : wr.cell? ⟨gb175, 2, none⟩ = some (.slice (some ad176) l0_2.length c0_2) := (blk_cell BK175.out 2).trans rfl
                     have hfz34_0 := blk_frozen BK175.out 0
                     have hfz34_1 := blk_frozen BK175.out 1
                     have hfz34_2 := blk_frozen BK175.out 2
                     have p179 : 0 ≤ (x6_2 : Int) := of_decide_eq_true (by first | (with_reducible assumption) | assumption)
                     have q179 : x6_2 < (l0_1.length : Int) := of_decide_eq_true (by first | (with_reducible assumption) | assumption)
                     obtain ⟨ad179, A179_0, c179_0, e179, hx179_0, hl179_0, hi179_0⟩ := at_L1 HR0_1.out x6_2 p179 q179
                     cases e179
                     replace hx179_0 := (HB.out.cell (World.block_lt_of_cell? w _ hx179_0)).trans hx179_0
                     have HR179_0 := Aside0.mk hi179_0
                     have HC179_0 := Aside0.mk hl179_0
                     clear hi179_0 hl179_0
                     replace p179 := eq_true p179
                     replace q179 := eq_true q179
                     have p180 : 0 ≤ (x8_4 : Int) := of_decide_eq_true (by first | (with_reducible assumption) | assumption)
                     have q180 : x8_4 < ((rd_L1 l0_1 x6_2).length : Int) := of_decide_eq_true (by first | (with_reducible assumption) | assumption)
                     obtain ⟨ad180, e180, hx180_0⟩ := Kd.at_int HR179_0.out x8_4 p180 q180
                     cases e180
                     replace hx180_0 := (HB.out.cell (World.block_lt_of_cell? w _ hx180_0)).trans hx180_0
                     replace p180 := eq_true p180
                     replace q180 := eq_true q180
                     have p181 : 0 ≤ (x6_2 : Int) := of_decide_eq_true (by first | (with_reducible assumption) | assumption)
                     have q181 : x6_2 < (l0_1.length : Int) := of_decide_eq_true (by first | (with_reducible assumption) | assumption)
                     obtain ⟨ad181, A181_0, c181_0, e181, hx181_0, hl181_0, hi181_0⟩ := at_L1 HR0_1.out x6_2 p181 q181
                     obtain rfl : ad179 = ad181 := (by injection e181)
                     replace hx181_0 := (HB.out.cell (World.block_lt_of_cell? w _ hx181_0)).trans hx181_0
                     have HR181_0 := Aside0.mk hi181_0
                     have HC181_0 := Aside0.mk hl181_0
                     clear hi181_0 hl181_0
                     replace p181 := eq_true p181
                     replace q181 := eq_true q181
                     have ea_ := Option.some.inj (hx179_0.symm.trans hx181_0)
                     injection ea_ with ea_ en_ ec_
                     subst ea_
                     subst ec_
                     clear en_
                     have p182 : 0 ≤ (x8_4 : Int) := of_decide_eq_true (by first | (with_reducible assumption) | assumption)
                     have q182 : x8_4 < ((rd_L1 l0_1 x6_2).length : Int) := of_decide_eq_true (by first | (with_reducible assumption) | assumption)
                     obtain ⟨ad182, e182, hx182_0⟩ := Kd.at_int HR181_0.out x8_4 p182 q182
                     cases e182
                     replace hx182_0 := (HB.out.cell (World.block_lt_of_cell? w _ hx182_0)).trans hx182_0
                     replace p182 := eq_true p182
                     replace q182 := eq_true q182
                     go_wp2
                     go_roundg k4
                     case measure => have := HJ2.out; have := HK2.out; have := HJ17.out; have := HK4.out; omega
                     case rel => exact ⟨(wrap64 (x8_4 + 1)), (by first | rfl | (simp; done) | (simp [*]; done)), H', ⟨by have := HJ2.out; have := HK2.out; have := HJ17.out; have := HK4.out; omega⟩, ⟨by (with_reducible repeat (first | refine blk_drewN ?_ _ | refine blk_drew ?_ | refine blk_alloc ?_ _)); exact BK175.out⟩, ⟨by repeat (first | (with_reducible first | exact HB.out | apply below_alloc | apply pw_below_drewN | apply below_drew1 | refine below_set ?_ GE175.out) | exact HB.out)⟩⟩
                  ·rw [if_neg c29] at H
                   exact absurd H (by simp)
                 ·rw [if_neg c28] at H
                  exact absurd H (by simp)
                ·rw [if_neg c27] at H
                 exact absurd H (by simp)
               ·rw [if_neg c26] at H
                exact absurd H (by simp)
              ·rw [if_neg c25] at H
               have c25b0 : decide (x8_4 < a1) = false := decide_eq_false c25
               clear c25
               have H' := Aside0.mk H
               clear H
               go_wp2
               go_roundg k4
               case measure => have := HJ2.out; have := HK2.out; have := HJ17.out; have := HK4.out; omega
               case rel => exact ⟨(wrap64 (x6_2 + 1)), (by first | rfl | (simp; done) | (simp [*]; done)), H', ⟨by have := HJ2.out; have := HK2.out; have := HJ17.out; have := HK4.out; omega⟩, ⟨by (with_reducible repeat (first | refine blk_drewN ?_ _ | refine blk_drew ?_ | refine blk_alloc ?_ _)); exact BK175.out⟩, ⟨by repeat (first | (with_reducible first | exact HB.out | apply below_alloc | apply pw_below_drewN | apply below_drew1 | refine below_set ?_ GE175.out) | exact HB.out)⟩⟩
        ·rw [if_neg c16] at H
         exact absurd H (by simp)
       ·rw [if_neg c15] at H
        exact absurd H (by simp)
      ·rw [if_neg c14] at H
       have c14b0 : decide (x6_2 < (l0_1.length : Int)) = false := decide_eq_false c14
       clear c14
       obtain rfl := Option.some.inj H
       go_wp2
       go_ret
       exact ⟨by first | rfl | (simp [errW_none, errW_some] <;> rfl) | (simp [*, errW_none, errW_some] <;> rfl), by repeat (first | (with_reducible first | exact HB.out | apply below_alloc | apply pw_below_drewN | apply below_drew1 | refine below_set ?_ GE175.out) | exact HB.out)⟩
end Go.Proofs.YtfonajakaimnoaaDoor.Lib

namespace Go.Proofs.YtfonajakaimnoaaDoor.C13
open Go.RowKit Go.Proofs.YtfonajakaimnoaaDoorW.PrintWords Go.Proofs.YtfonajakaimnoaaDoorW.PrintLast Go.Proofs.YtfonajakaimnoaaDoorW.PrintMore Go.Proofs.YtfonajakaimnoaaDoor.Lib Lent Go.Proofs.YtfonajakaimnoaaDoor.Fn Go.Proofs.YtfonajakaimnoaaDoor.C11 Go.Proofs.YtfonajakaimnoaaDoor.Lend Go.Proofs.YtfonajakaimnoaaDoor.C14 Go.Shelf
set_option linter.unusedVariables false
set_option linter.unusedSimpArgs false
attribute [local go_sem] max2_int min2_int max_two min_two max_three min_three max_four min_four
def outB (n : Nat) (x : Int) : Bool := decide (x < 0) || decide (x ≥ (n : Int))
def rowB (n : Nat) (sy : Int) (l : List Int) : Bool := decide ((l.length : Int) = sy) && !(l.any (outB n))
def upB (last : Int) : List Int → Bool
 | [] => true
 | x :: r => decide (last < x) && upB x r
def headB (s : Int) (N O : LL) (sy : Int) : Bool := decide (0 ≤ sy) && (decide (0 < N.length) && (decide (O.length = N.length) && (decide (0 ≤ s) && decide (s < (N.length : Int)))))
def mayB (s : Int) (N O : LL) (sy : Int) : Bool := headB s N O sy && (N.all (rowB N.length sy) && O.all (upB (-1)))
theorem out_calls (n : Nat) (B : Nat) (x : Int) (w : World) (hc : w.cell? ⟨B, 0, none⟩ = some (.int .i64 n)) :
  Calls Tryd.prog 108 (#[.int .i64 x] ++ #[.pointer (some ⟨B, 0, none⟩)]) w fun e w' => e = .returned (.bool (outB n x)) ∧ Below w.heap.size w w' := by
 by_cases h : x < 0
 ·have h1 : decide (x < 0) = true := by simpa using h
  go_enter Tryd.func108, Tryd.ntmps108
  go_wp2
  repeat (go_quiet (fail); try go_wp2)
  go_ret
  exact ⟨by simp [outB, h], by repeat (first | exact Below.refl _ _ | apply pw_below_drewN | apply below_drew1)⟩
 ·have h1 : decide (x < 0) = false := by simpa using h
  go_enter Tryd.func108, Tryd.ntmps108
  go_wp2
  repeat (go_quiet (fail); try go_wp2)
  go_ret
  exact ⟨by simp [outB, show ¬ x < 0 from by omega], by repeat (first | exact Below.refl _ _ | apply pw_below_drewN | apply below_drew1)⟩
theorem up_snoc (l : List Int) (k : Nat) (hk : k < l.length) (last : Int) : upB last (l.take (k + 1)) = (upB last (l.take k) && decide ((if k = 0 then last else l.getD (k - 1) 0) < l[k])) := by
 induction l generalizing k last with
 | nil => simp at hk
 | cons x r ih =>
  cases k with
  | zero => simp [upB]
  | succ k =>
   have hk' : k < r.length := by simpa using hk
   show (decide (last < x) && upB x (r.take (k + 1))) = ((decide (last < x) && upB x (r.take k)) && _)
   rw [ih k hk' x, Bool.and_assoc]
   congr 2
   cases k with
   | zero => simp
   | succ k => simp [List.getD_eq_getElem?_getD]
theorem up_take (l : List Int) (k : Nat) (last : Int) (h : upB last l = true) : upB last (l.take k) = true := by
 induction l generalizing k last with
 | nil => simp [upB]
 | cons x r ih =>
  cases k with
  | zero => rfl
  | succ k =>
   simp only [upB, Bool.and_eq_true] at h
   show (decide (last < x) && upB x (r.take k)) = true
   rw [h.1, ih k x h.2]
   rfl
theorem up_above (l : List Int) (last : Int) (h : upB last l = true) : ∀ x ∈ l, last < x := by
 induction l generalizing last with
 | nil => simp
 | cons x r ih =>
  simp only [upB, Bool.and_eq_true, decide_eq_true_eq] at h
  intro y hy
  rcases List.mem_cons.1 hy with rfl | hy
  ·exact h.1
  ·have := ih x h.2 y hy
   omega
theorem may_row {s : Int} {N O : LL} {sy : Int} {k : Nat} {x : List Int} (hx : N[k]? = some x) (h : rowB N.length sy x = false) : mayB s N O sy = false := by
 have : N.all (rowB N.length sy) = false := by
  rw [List.all_eq_false]
  exact ⟨x, List.mem_of_getElem? hx, by rw [h]; simp⟩
 simp [mayB, this]
theorem may_up {s : Int} {N O : LL} {sy : Int} {k j : Nat} {x : List Int} (hx : O[k]? = some x) (h : upB (-1) (x.take j) = false) : mayB s N O sy = false := by
 have : O.all (upB (-1)) = false := by
  rw [List.all_eq_false]
  refine ⟨x, List.mem_of_getElem? hx, fun hu => ?_⟩
  rw [up_take x j (-1) hu] at h
  cases h
 simp [mayB, this]
theorem may_all {s : Int} {N O : LL} {sy : Int} (h0 : headB s N O sy = true) (h1 : N.all (rowB N.length sy) = true) (h2 : O.all (upB (-1)) = true) : mayB s N O sy = true := by
 rw [mayB, h0, h1, h2]
 rfl
set_option maxHeartbeats 4000000 in
set_option maxRecDepth 10000 in
theorem mayBe_calls {s0 : Int} {A0 : Option Addr} {c0 : Nat} {N : LL} {A1 : Option Addr} {c1 : Nat} {O : LL} {w : World} (h : Mc A0 c0 N A1 c1 O w) (sy : Int) :
  Calls Tryd.prog 64 #[.agg #[.int .i64 s0, .slice A0 N.length c0, .slice A1 O.length c1], .int .i64 sy] w fun e w' => e = .returned (.bool (mayB s0 N O sy)) ∧ Below w.heap.size w w' := by
 have hu := Tryd.underlying24
 have H := Aside0.mk h
 have hn1 := C_bound h.n.1
 have hn2 := C_bound h.o.1
 have hcs := Aside0.mk (rows_bnd h.o.1)
 clear h
 obtain ⟨q, hq⟩ : ∃ q, q = headB s0 N O sy := ⟨_, rfl⟩
 have HQ := Aside0.mk hq
 clear hq
 obtain ⟨n, hn⟩ : ∃ n, n = N.length := ⟨_, rfl⟩
 obtain ⟨o, ho⟩ : ∃ o, o = O.length := ⟨_, rfl⟩
 have HN := Aside0.mk (And.intro hn ho)
 rw [← hn, ← ho]
 rw [← hn] at hn1
 rw [← ho] at hn2
 clear hn ho
 go_enter Tryd.func64, Tryd.ntmps64
 go_upto_region 2 with fail
 go_cut [38] (fun v38 wc => v38 = .bool (!q) ∧ wc = (w.alloc (.cells #[.int .i64 s0, .slice A0 n c0, .slice A1 o c1] 24)).alloc (.cells #[.int .i64 n] 3))
 case first =>
  by_cases h0 : sy < 0
  ·have e0 : decide (sy < 0) = true := decide_eq_true h0
   have hq : q = false := by rw [HQ.out]; simp only [headB, ← HN.out.1, ← HN.out.2]; simp; omega
   go_wp2_with fail
   go_meet
   exact ⟨by rw [hq]; first | rfl | (simp only [e3, e4']; rfl) | simp [e3], rfl⟩
  ·have e0 : decide (sy < 0) = false := decide_eq_false h0
   by_cases h1 : n = 0
   ·have e1 : ((n : Int) == 0) = true := by simp; omega
    have e1' : (n == 0) = true := by simp; omega
    have hq : q = false := by rw [HQ.out]; simp only [headB, ← HN.out.1, ← HN.out.2]; simp; omega
    clear h1
    go_wp2_with fail
    go_meet
    exact ⟨by rw [hq]; first | rfl | (simp only [e3, e4']; rfl) | simp [e3], rfl⟩
   ·have e1 : ((n : Int) == 0) = false := by simp; omega
    have e1' : (n == 0) = false := by simp; omega
    by_cases h2 : ¬ o = n
    ·have e2 : ((o : Int) == (n : Int)) = false := by simp; omega
     have e2' : (o == n) = false := by simp; omega
     have hq : q = false := by rw [HQ.out]; simp only [headB, ← HN.out.1, ← HN.out.2]; simp; omega
     clear h1
     go_wp2_with fail
     go_meet
     exact ⟨by rw [hq]; rfl, rfl⟩
    ·obtain rfl : n = o := by omega
     by_cases h3 : s0 < 0
     ·have e3 : decide (s0 < 0) = true := decide_eq_true h3
      have hq : q = false := by rw [HQ.out]; simp only [headB, ← HN.out.1, ← HN.out.2]; simp; omega
      clear h1
      go_wp2_with fail
      go_meet
      exact ⟨by rw [hq]; first | rfl | (simp only [e3, e4']; rfl) | simp [e3], rfl⟩
     ·have e3 : decide (s0 < 0) = false := decide_eq_false h3
      by_cases h4 : s0 ≥ (n : Int)
      ·have e4 : decide (s0 ≥ (n : Int)) = true := decide_eq_true h4
       have e4' : decide ((n : Int) ≤ s0) = true := decide_eq_true h4
       have hq : q = false := by rw [HQ.out]; simp only [headB, ← HN.out.1, ← HN.out.2]; simp; omega
       clear h1
       go_wp2_with fail
       go_meet
       exact ⟨by rw [hq]; first | rfl | (simp only [e3, e4']; rfl) | simp [e3], rfl⟩
      ·have e4 : decide (s0 ≥ (n : Int)) = false := decide_eq_false h4
       have e4' : decide ((n : Int) ≤ s0) = false := decide_eq_false h4
       have hq : q = true := by rw [HQ.out]; simp only [headB, ← HN.out.1, ← HN.out.2]; simp; omega
       clear h1
       go_wp2_with fail
       go_meet
       exact ⟨by rw [hq]; first | rfl | (simp only [e3, e4']; rfl) | simp [e3], rfl⟩
 case rest =>
  obtain ⟨rfl, rfl⟩ := hcut
  cases q with
  | false =>
   go_wp2_with fail
   go_ret
   exact ⟨by simp [mayB, ← HQ.out], below_alloc (below_alloc (Below.refl w.heap.size w) _) _⟩
  | true =>
   obtain ⟨W0, hW0⟩ : ∃ W0, W0 = (w.alloc (.cells #[.int .i64 s0, .slice A0 n c0, .slice A1 o c1] 24)).alloc (.cells #[.int .i64 n] 3) := ⟨_, rfl⟩
   have HX0 : Aside0 (W0.heap[w.heap.size]? = some (.cells #[.int .i64 s0, .slice A0 n c0, .slice A1 o c1] 24 (0, 0))) := ⟨by rw [hW0, heap_alloc_old _ _ (by simp)]; exact heap_alloc_new _ _⟩
   have HX1 : Aside0 (W0.heap[w.heap.size + 1]? = some (.cells #[.int .i64 n] 3 (0, 0))) := ⟨by have := heap_alloc_new (w.alloc (.cells #[.int .i64 s0, .slice A0 n c0, .slice A1 o c1] 24)) (.cells #[.int .i64 n] 3); rw [hW0]; simpa using this⟩
   have HB0 : Aside0 (Below w.heap.size w W0) := ⟨by rw [hW0]; exact below_alloc (below_alloc (Below.refl w.heap.size w) _) _⟩
   rw [← hW0]
   clear hW0
   have x1 : W0.cell? ⟨w.heap.size, 1, none⟩ = some (.slice A0 n c0) := (blk_cell HX0.out 1).trans rfl
   go_wp2_with fail
   go_loopg [42, 7] n (fun gg v42 _ wr => ∃ kk : Nat, kk ≤ n ∧ n - kk ≤ gg ∧ v42 = .int .i64 kk ∧ Aside0 (Below W0.heap.size W0 wr) ∧ Aside0 ((N.take kk).all (rowB n sy) = true))
   case atStart => exact ⟨0, Nat.zero_le _, by omega, rfl, ⟨Below.refl _ _⟩, ⟨rfl⟩⟩
   case round =>
    obtain ⟨kk, hkk, hg, rfl, HB, HA⟩ := hrel
    by_cases hlt : kk < n
    ·have hltz : (kk : Int) < (n : Int) := by omega
     have hltN : kk < N.length := by have := HN.out.1; omega
     obtain ⟨ad, A5, c5, rfl, hcell', h5, h6⟩ := list_at H.out.n.1 kk N[kk] (List.getElem?_eq_getElem hltN)
     have hcell := pw_cell_below HB.out (pw_cell_below HB0.out hcell')
     have hxk := Aside0.mk (List.getElem?_eq_getElem hltN)
     generalize N[kk] = x at hcell hcell' h5 h6 hxk
     have H6 := Aside0.mk (And.intro h5 h6)
     clear h5 h6 hcell' hltN
     by_cases hl : (x.length : Int) = sy
     ·have e5 : ((x.length : Int) == sy) = true := by simp [hl]
      have HL := Aside0.mk hl
      go_wp2_with fail
      refine (containsFunc_int 108 #[.pointer (some ⟨w.heap.size + 1, 0, none⟩)] (enters_of Tryd.func108 (by kernel_rfl) rfl) (outB n) A5 c5 x wr (Kd.C_below (Kd.C_below H6.out.2 HB0.out) HB.out)
       (fun W y hb _ => out_calls n (w.heap.size + 1) y W ((blk_cell ((hb.block _ (by have := blk_lt HX1.out; have := HB.out.size; omega)).trans ((HB.out.block _ (blk_lt HX1.out)).trans HX1.out)) 0).trans rfl))).mono ?_
      rintro e w2 ⟨rfl, hb⟩
      have HB2 := Aside0.mk (below_step HB.out hb)
      clear hb
      have hP : Aside0 (rowB n sy x = !(x.any (outB n))) := ⟨by simp [rowB, HL.out]⟩
      generalize x.any (outB n) = q2 at hP
      cases q2 with
      | true =>
       go_wp2_with fail
       go_ret
       exact ⟨by rw [may_row hxk.out (by rw [← HN.out.1]; exact hP.out)]; rfl, below_step HB0.out HB2.out⟩
      | false =>
       go_wp2_with fail
       go_roundg (n - (kk + 1))
       case measure => omega
       case rel => exact ⟨kk + 1, by omega, by omega, by go_num, HB2, ⟨by rw [all_snoc N (rowB n sy) kk x hxk.out, HA.out, hP.out]; rfl⟩⟩
     ·have e5 : ((x.length : Int) == sy) = false := by simp [hl]
      have hP : Aside0 (rowB n sy x = false) := ⟨by simp [rowB, hl]⟩
      go_wp2_with fail
      go_ret
      exact ⟨by rw [may_row hxk.out (by rw [← HN.out.1]; exact hP.out)]; rfl, below_step HB0.out HB.out⟩
    ·have hltz : ¬ (kk : Int) < (n : Int) := by omega
     have HA2 : Aside0 (N.all (rowB N.length sy) = true) := ⟨by have h := HA.out; rw [show kk = N.length by have := HN.out.1; omega, List.take_length] at h; rw [← HN.out.1]; exact h⟩
     clear HA hg
     have x2 : wr.cell? ⟨w.heap.size, 2, none⟩ = some (.slice A1 o c1) := (blk_cell ((HB.out.block _ (blk_lt HX0.out)).trans HX0.out) 2).trans rfl
     go_wp2_with fail
     go_loopg [59, 9, 10, 11, 65] o (fun gg v59 _ _ _ _ wq => ∃ k : Nat, k ≤ o ∧ o - k ≤ gg ∧ v59 = .int .i64 k ∧ Aside0 (Below w.heap.size w wq) ∧ Aside0 ((O.take k).all (upB (-1)) = true))
     case atStart => exact ⟨0, Nat.zero_le _, by omega, rfl, ⟨below_step HB0.out HB.out⟩, ⟨rfl⟩⟩
     case round =>
      clear HB x2
      obtain ⟨k, hk, hg, rfl, HB, HA⟩ := hrel
      obtain ⟨wo, rfl⟩ : ∃ wo : World, wo = wr := ⟨_, rfl⟩
      by_cases hlt2 : k < o
      ·have hltz2 : (k : Int) < (o : Int) := by omega
       have hltN : k < O.length := by have := HN.out.2; omega
       obtain ⟨ad, A5, c5, rfl, hcell', h5, h6⟩ := list_at H.out.o.1 k O[k] (List.getElem?_eq_getElem hltN)
       have hcell := pw_cell_below HB.out hcell'
       have hxk := Aside0.mk (List.getElem?_eq_getElem hltN)
       generalize O[k] = x at hcell hcell' h5 h6 hxk
       have hxl := C_bound h6
       have H6 := Aside0.mk (And.intro h5 h6)
       clear h5 h6 hcell' hltN
       go_wp2_with fail
       go_loopg [65, 10, 11] x.length (fun gg v65 _ _ wq => ∃ j : Nat, j ≤ x.length ∧ x.length - j ≤ gg ∧ v65 = .int .i64 j ∧ Aside0 (Below w.heap.size w wq) ∧ Aside0 (upB (-1) (x.take j) = true))
       case atStart => exact ⟨0, Nat.zero_le _, by omega, rfl, HB, ⟨rfl⟩⟩
       case round =>
        clear HB
        obtain ⟨j, hj, hg3, rfl, HB, HU⟩ := hrel
        by_cases hlt3 : j < x.length
        ·have hltz3 : (j : Int) < (x.length : Int) := by omega
         have HS := Aside0.mk (up_snoc x j hlt3 (-1))
         obtain ⟨a5, rfl, hp'⟩ := int_at H6.out.2 j x[j] (List.getElem?_eq_getElem hlt3)
         have hp := pw_cell_below HB.out hp'
         clear hp'
         have HU2 := Aside0.mk (up_take x (j + 1) (-1))
         by_cases hj0 : j = 0
         ·have HJ := Aside0.mk hj0
          rw [if_pos hj0] at HS
          have e6 : ((j : Int) > 0) = False := by simp; omega
          have e7 : decide ((0 : Int) < (j : Int)) = false := decide_eq_false (by omega)
          have e7' : ¬ (0 : Int) < (j : Int) := by omega
          clear hj0 e6
          generalize x[j] = p at hp HS
          by_cases hp0 : p < 0
          ·have e8 : decide (p < 0) = true := decide_eq_true hp0
           go_wp2_with fail
           go_ret
           exact ⟨by rw [may_up (j := j + 1) hxk.out (by rw [HS.out, HU.out, decide_eq_false (by omega)]; rfl)]; rfl, HB.out⟩
          ·have e8 : decide (p < 0) = false := decide_eq_false hp0
           go_wp2_with fail
           go_roundg (x.length - (j + 1))
           case measure => omega
           case rel => exact ⟨j + 1, by omega, by omega, by go_num, HB, ⟨by rw [HS.out, HU.out, decide_eq_true (by omega)]; rfl⟩⟩
         ·have hjm : j - 1 < x.length := by omega
          have e7 : decide ((0 : Int) < (j : Int)) = true := decide_eq_true (by omega)
          have e7' : (0 : Int) < (j : Int) := by omega
          rw [if_neg hj0] at HS
          obtain ⟨a6, e9, hq'⟩ := int_at H6.out.2 (j - 1) x[j - 1] (List.getElem?_eq_getElem hjm)
          cases e9
          have hq0 := pw_cell_below HB.out hq'
          have hab := up_above _ _ HU.out x[j - 1] (List.mem_iff_getElem.2 ⟨j - 1, by rw [List.length_take]; omega, by simp⟩)
          have hgd : x.getD (j - 1) 0 = x[j - 1] := by rw [List.getD_eq_getElem?_getD, List.getElem?_eq_getElem hjm]; rfl
          rw [hgd] at HS
          clear hgd hq'
          generalize x[j] = p at hp HS
          generalize x[j - 1] = q0 at hq0 HS hab
          have HAB := Aside0.mk hab
          clear hab
          by_cases hp0 : p < 0
          ·have e8 : decide (p < 0) = true := decide_eq_true hp0
           go_wp2_with fail
           go_ret
           exact ⟨by rw [may_up (j := j + 1) hxk.out (by rw [HS.out, HU.out, decide_eq_false (by have := HAB.out; omega)]; rfl)]; rfl, HB.out⟩
          ·have e8 : decide (p < 0) = false := decide_eq_false hp0
           by_cases hq1 : q0 ≥ p
           ·have e10 : decide (q0 ≥ p) = true := decide_eq_true hq1
            have e10' : decide (p ≤ q0) = true := decide_eq_true hq1
            go_wp2_with fail
            go_ret
            exact ⟨by rw [may_up (j := j + 1) hxk.out (by rw [HS.out, HU.out, decide_eq_false (by omega)]; rfl)]; rfl, HB.out⟩
           ·have e10 : decide (q0 ≥ p) = false := decide_eq_false hq1
            have e10' : decide (p ≤ q0) = false := decide_eq_false hq1
            go_wp2_with fail
            go_roundg (x.length - (j + 1))
            case measure => omega
            case rel => exact ⟨j + 1, by omega, by omega, by go_num, HB, ⟨by rw [HS.out, HU.out, decide_eq_true (by omega)]; rfl⟩⟩
        ·have hltz3 : ¬ (j : Int) < (x.length : Int) := by omega
         have HX : Aside0 (upB (-1) x = true) := ⟨by have h := HU.out; rw [show j = x.length by omega, List.take_length] at h; exact h⟩
         clear HU
         go_wp2_with fail
         go_roundg (o - (k + 1))
         case measure => omega
         case rel => exact ⟨k + 1, by omega, by omega, by go_num, HB, ⟨by rw [all_snoc O (upB (-1)) k x hxk.out, HA.out, HX.out]; rfl⟩⟩
      ·have hltz2 : ¬ (k : Int) < (o : Int) := by omega
       have HA3 : Aside0 (O.all (upB (-1)) = true) := ⟨by have h := HA.out; rw [show k = O.length by have := HN.out.2; omega, List.take_length] at h; exact h⟩
       go_wp2_with fail
       go_ret
       exact ⟨by rw [may_all HQ.out.symm HA2.out HA3.out]; rfl, HB.out⟩
end Go.Proofs.YtfonajakaimnoaaDoor.C13

namespace Go.Proofs.YtfonajakaimnoaaDoor.C13
open Go.RowKit Go.Proofs.YtfonajakaimnoaaDoorW.PrintWords Go.Proofs.YtfonajakaimnoaaDoorW.PrintLast Go.Proofs.YtfonajakaimnoaaDoorW.PrintMore Go.Proofs.YtfonajakaimnoaaDoor.Lib Lent Go.Proofs.YtfonajakaimnoaaDoor.Fn Go.Proofs.YtfonajakaimnoaaDoor.C11 Go.Proofs.YtfonajakaimnoaaDoor.Lend Go.Proofs.YtfonajakaimnoaaDoor.C14
set_option linter.unusedVariables false
set_option linter.unusedSimpArgs false
theorem rd_nat (l : List Int) (i : Nat) (h : i < l.length) : rd l (i : Int) = l[i] := by
 unfold rd
 rw [show ((i : Int)).toNat = i from rfl, List.getD_eq_getElem?_getD, List.getElem?_eq_getElem h]
 rfl
theorem rdL_nat (l : LL) (i : Nat) (h : i < l.length) : rd_L1 l (i : Int) = l[i] := by
 unfold rd_L1
 rw [show ((i : Int)).toNat = i from rfl, List.getD_eq_getElem?_getD, List.getElem?_eq_getElem h]
 rfl
theorem drop_cons {α : Type} (l : List α) (i : Nat) (h : i < l.length) : l.drop i = l[i] :: l.drop (i + 1) := List.drop_eq_getElem_cons h
theorem w_succ {i n : Nat} (h : i < n) (hn : n ≤ 9223372036854775807) : wrap64 ((i : Int) + 1) = ((i + 1 : Nat) : Int) := by
 rw [wrap_succ (n := n) (by omega) (by omega) hn]; omega
theorem rises_loop13 (l : List Int) (hl : l.length ≤ 9223372036854775807) : ∀ (d i : Nat) (last : Int), i ≤ l.length → l.length - i = d → -1 ≤ last → (i = 0 → last = -1) → (0 < i → l.getD (i - 1) 0 = last) → Ev (fun k => caesuraref13_rises.l0 k l i) (upB last (l.drop i)) := by
 intro d
 induction d with
 | zero =>
  intro i last hi hd _ _ _
  refine Ev.step (f := fun _ => some (upB last (l.drop i))) (fun k => ?_) (Ev.now _)
  simp only [caesuraref13_rises.l0]
  rw [if_neg (by omega), List.drop_of_length_le (by omega)]
  rfl
 | succ d ih =>
  intro i last hi hd hm h0 h1
  have hlt : i < l.length := by omega
  have hx := rd_nat l i hlt
  have hw := Aside0.mk (w_succ hlt hl)
  rw [drop_cons l i hlt]
  have hg : l.getD i 0 = l[i] := by rw [List.getD_eq_getElem?_getD, List.getElem?_eq_getElem hlt]; rfl
  by_cases hneg : l[i] < 0
  ·have hu : upB last (l[i] :: l.drop (i + 1)) = false := by simp only [upB]; rw [decide_eq_false (by omega)]; rfl
   rw [hu]
   refine Ev.step (f := fun _ => some false) (fun k => ?_) (Ev.now _)
   simp only [caesuraref13_rises.l0]
   rw [if_pos (by omega), if_pos (by omega), hx, if_pos hneg]
  ·by_cases hz : i = 0
   ·subst hz
    have := h0 rfl
    subst this
    have hu : upB (-1) (l[0] :: l.drop (0 + 1)) = upB l[0] (l.drop (0 + 1)) := by simp only [upB]; rw [decide_eq_true (by omega)]; rfl
    rw [hu]
    refine Ev.step (f := fun k => caesuraref13_rises.l0 k l ((0 + 1 : Nat) : Int)) (fun k => ?_) (ih (0 + 1) l[0] (by omega) (by omega) (by omega) (fun h => by omega) (fun _ => hg))
    conv => lhs; unfold caesuraref13_rises.l0
    rw [if_pos (by omega), if_pos (by omega), hx, if_neg hneg, if_neg (by omega), hw.out]
   ·have hp : rd l (wrap64 ((i : Int) - 1)) = last := by
     rw [show wrap64 ((i : Int) - 1) = ((i - 1 : Nat) : Int) by unfold wrap64; omega]
     unfold rd
     exact h1 (by omega)
    have g1 : 0 ≤ wrap64 ((i : Int) - 1) := by unfold wrap64; omega
    have g2 : wrap64 ((i : Int) - 1) < (l.length : Int) := by unfold wrap64; omega
    have hp := Aside0.mk hp
    by_cases hle : l[i] ≤ last
    ·have hu : upB last (l[i] :: l.drop (i + 1)) = false := by simp only [upB]; rw [decide_eq_false (by omega)]; rfl
     rw [hu]
     refine Ev.step (f := fun _ => some false) (fun k => ?_) (Ev.now _)
     simp only [caesuraref13_rises.l0]
     rw [if_pos (by omega), if_pos (by omega), hx, if_neg hneg, if_pos (by omega), if_pos g1, if_pos g2, hp.out, if_pos hle]
    ·have hu : upB last (l[i] :: l.drop (i + 1)) = upB l[i] (l.drop (i + 1)) := by simp only [upB]; rw [decide_eq_true (by omega)]; rfl
     rw [hu]
     refine Ev.step (f := fun k => caesuraref13_rises.l0 k l ((i + 1 : Nat) : Int)) (fun k => ?_) (ih (i + 1) l[i] (by omega) (by omega) (by omega) (fun h => by omega) (fun _ => hg))
     conv => lhs; unfold caesuraref13_rises.l0
     rw [if_pos (by omega), if_pos (by omega), hx, if_neg hneg, if_pos (by omega), if_pos g1, if_pos g2, hp.out, if_neg hle, hw.out]
theorem rises_ev (l : List Int) (hl : l.length ≤ 9223372036854775807) : Ev (fun k => caesuraref13_rises.f k l) (upB (-1) l) :=
 rises_loop13 l hl l.length 0 (-1) (by omega) (by omega) (by omega) (fun _ => rfl) (fun h => by omega)
theorem may_inner (s sy : Int) (N O : LL) (hn : N.length ≤ 9223372036854775807) (hN : ∀ l ∈ N, l.length ≤ 9223372036854775807) (i : Nat) (hi : i < N.length) (hlen : (N[i].length : Int) = sy) (r : Bool) (hr : Ev (fun k => caesuraref13_MayBe.l0 k sy (N.length : Int) ((i + 1 : Nat) : Int) s N O) r) :
  ∀ (d j : Nat), j ≤ N[i].length → N[i].length - j = d → Ev (fun k => caesuraref13_MayBe.l1 k sy (N.length : Int) (i : Int) (j : Int) s N O) (!((N[i].drop j).any (outB N.length)) && r) := by
 have hw := Aside0.mk (w_succ hi hn)
 have hlb := hN _ (List.getElem_mem hi)
 have hR := rdL_nat N i hi
 generalize N[i] = row at *
 intro d
 induction d with
 | zero =>
  intro j hj hd
  rw [List.drop_of_length_le (by omega)]
  refine Ev.step (f := fun k => caesuraref13_MayBe.l0 k sy (N.length : Int) ((i + 1 : Nat) : Int) s N O) (fun k => ?_) (by simpa using hr)
  simp only [caesuraref13_MayBe.l1]
  rw [if_neg (by omega), hw.out]
 | succ d ih =>
  intro j hj hd
  have hlt : j < row.length := by omega
  have hx := rd_nat row j hlt
  have hw2 := Aside0.mk (w_succ hlt hlb)
  rw [drop_cons row j hlt, List.any_cons]
  by_cases h1 : row[j] < 0
  ·rw [show outB N.length row[j] = true by simp [outB, h1]]
   refine Ev.step (f := fun _ => some false) (fun k => ?_) (Ev.now _)
   simp only [caesuraref13_MayBe.l1]
   rw [if_pos (by omega), if_pos (by omega), if_pos (by omega), if_pos (by omega), hR, if_pos (by omega), hx, if_pos h1]
  ·by_cases h2 : row[j] ≥ (N.length : Int)
   ·rw [show outB N.length row[j] = true by simp [outB, h2]]
    refine Ev.step (f := fun _ => some false) (fun k => ?_) (Ev.now _)
    simp only [caesuraref13_MayBe.l1]
    rw [if_pos (by omega), if_pos (by omega), if_pos (by omega), if_pos (by omega), hR, if_pos (by omega), hx, if_neg h1, if_pos h2]
   ·rw [show outB N.length row[j] = false by simp [outB]; omega, Bool.false_or]
    refine Ev.step (f := fun k => caesuraref13_MayBe.l1 k sy (N.length : Int) (i : Int) ((j + 1 : Nat) : Int) s N O) (fun k => ?_) (ih (j + 1) (by omega) (by omega))
    conv => lhs; unfold caesuraref13_MayBe.l1
    rw [if_pos (by omega), if_pos (by omega), if_pos (by omega), if_pos (by omega), hR, if_pos (by omega), hx, if_neg h1, if_neg h2, hw2.out]
theorem may_outer (s sy : Int) (N O : LL) (hn : N.length ≤ 9223372036854775807) (ho : O.length = N.length) (hO : ∀ l ∈ O, l.length ≤ 9223372036854775807) (hN : ∀ l ∈ N, l.length ≤ 9223372036854775807) : ∀ (d i : Nat), i ≤ N.length → N.length - i = d → Ev (fun k => caesuraref13_MayBe.l0 k sy (N.length : Int) (i : Int) s N O) ((N.drop i).all (rowB N.length sy) && (O.drop i).all (upB (-1))) := by
 intro d
 induction d with
 | zero =>
  intro i hi hd
  rw [List.drop_of_length_le (by omega), List.drop_of_length_le (by omega)]
  refine Ev.step (f := fun _ => some true) (fun k => ?_) (Ev.now _)
  simp only [caesuraref13_MayBe.l0]
  rw [if_neg (by omega)]
 | succ d ih =>
  intro i hi hd
  have hlt : i < N.length := by omega
  have hlt2 : i < O.length := by omega
  have hr := ih (i + 1) (by omega) (by omega)
  have hR := rdL_nat N i hlt
  have hR2 := rdL_nat O i hlt2
  have hup := rises_ev O[i] (hO _ (List.getElem_mem hlt2))
  rw [drop_cons N i hlt, drop_cons O i hlt2, List.all_cons, List.all_cons]
  by_cases hlen : (N[i].length : Int) = sy
  ·have hin := may_inner s sy N O hn hN i hlt hlen _ hr N[i].length 0 (by omega) (by omega)
   refine Ev.step (f := fun k => (caesuraref13_rises.f k O[i]).bind fun t177 => caesuraref13_MayBe.j2 k sy (N.length : Int) i (!t177) s N O) (fun k => ?_) ?_
   ·conv => lhs; unfold caesuraref13_MayBe.l0
    rw [if_pos (by omega), if_pos (by omega), if_pos (by omega), hR2, hR]
    simp only [if_pos hlen, if_pos (show (i : Int) < (N.length : Int) by omega)]
   ·refine Ev.bind hup ?_
    cases hq : upB (-1) O[i] with
    | false =>
     refine Ev.step (f := fun _ => some false) (fun k => ?_) (by simpa using Ev.now false)
     conv => lhs; unfold caesuraref13_MayBe.j2
     exact if_pos rfl
    | true =>
     refine Ev.step (f := fun k => caesuraref13_MayBe.l1 k sy (N.length : Int) i 0 s N O) (fun k => ?_) ?_
     ·conv => lhs; unfold caesuraref13_MayBe.j2
      exact if_neg (by simp)
     ·rw [show rowB N.length sy N[i] = !(N[i].any (outB N.length)) by simp [rowB, hlen]]
      have : (!N[i].any (outB N.length) && (List.drop (i + 1) N).all (rowB N.length sy) && (true && (List.drop (i + 1) O).all (upB (-1)))) = (!((N[i].drop 0).any (outB N.length)) && ((List.drop (i + 1) N).all (rowB N.length sy) && (List.drop (i + 1) O).all (upB (-1)))) := by
       rw [List.drop_zero, Bool.true_and, Bool.and_assoc]
      rw [this]
      exact hin
  ·rw [show rowB N.length sy N[i] = false by simp [rowB, hlen]]
   refine Ev.step (f := fun k => (caesuraref13_rises.f k O[i]).bind fun t177 => caesuraref13_MayBe.j2 k sy (N.length : Int) i true s N O) (fun k => ?_) ?_
   ·conv => lhs; unfold caesuraref13_MayBe.l0
    rw [if_pos (by omega), if_pos (by omega), if_pos (by omega), hR2, hR]
    simp only [if_neg hlen, if_pos (show (i : Int) < (N.length : Int) by omega)]
   ·refine Ev.bind hup ?_
    refine Ev.step (f := fun _ => some false) (fun k => ?_) (by simpa using Ev.now false)
    conv => lhs; unfold caesuraref13_MayBe.j2
    exact if_pos rfl
theorem refMay_ev (s sy : Int) (N O : LL) (hn : N.length ≤ 9223372036854775807) (hO : ∀ l ∈ O, l.length ≤ 9223372036854775807) (hN : ∀ l ∈ N, l.length ≤ 9223372036854775807) :
  Ev (fun k => caesuraref13_MayBe.f k s N O sy) (mayB s N O sy) := by
 have hj : ∀ r, r = false → Ev (fun k => caesuraref13_MayBe.j0 k sy (N.length : Int) true s N O) r := fun r hr => by
  subst hr
  refine Ev.step (f := fun _ => some false) (fun k => ?_) (Ev.now _)
  conv => lhs; unfold caesuraref13_MayBe.j0
  exact if_pos rfl
 unfold caesuraref13_MayBe.f
 by_cases h0 : sy < 0
 ·simp only [if_pos h0]
  exact hj _ (by simp [mayB, headB]; omega)
 ·simp only [if_neg h0]
  by_cases h1 : (N.length : Int) < 1
  ·simp only [if_pos h1]
   refine hj _ ?_
   simp only [mayB, headB]
   rw [decide_eq_false (show ¬ 0 < N.length by omega)]
   simp
  ·simp only [if_neg h1]
   by_cases h2 : (O.length : Int) = (N.length : Int)
   ·simp only [if_pos h2]
    by_cases h3 : s < 0
    ·simp only [if_pos h3]
     refine hj _ ?_
     simp only [mayB, headB]
     rw [decide_eq_false (show ¬ 0 ≤ s by omega)]
     simp
    ·simp only [if_neg h3]
     by_cases h4 : s ≥ (N.length : Int)
     ·rw [decide_eq_true h4]
      refine hj _ ?_
      simp only [mayB, headB]
      rw [decide_eq_false (show ¬ s < (N.length : Int) by omega)]
      simp
     ·rw [decide_eq_false h4]
      have hh : headB s N O sy = true := by simp only [headB]; simp; omega
      rw [mayB, hh, Bool.true_and]
      refine Ev.step (f := fun k => caesuraref13_MayBe.l0 k sy (N.length : Int) 0 s N O) (fun k => ?_) ?_
      ·conv => lhs; unfold caesuraref13_MayBe.j0
       exact if_neg (by simp)
      ·have := may_outer s sy N O hn (by omega) hO hN N.length 0 (by omega) (by omega)
       simpa using this
   ·simp only [if_neg h2]
    refine hj _ ?_
    simp only [mayB, headB]
    rw [decide_eq_false (show ¬ O.length = N.length by omega)]
    simp
theorem refMay_calls {s0 : Int} {A0 : Option Addr} {c0 : Nat} {N : LL} {A1 : Option Addr} {c1 : Nat} {O : LL} {w : World} (h : Mc A0 c0 N A1 c1 O w) (sy : Int) :
  Calls Tryd.prog 55 #[.agg #[.int .i64 s0, .slice A0 N.length c0, .slice A1 O.length c1], .int .i64 sy] w fun e w' => e = .returned (.bool (mayB s0 N O sy)) ∧ Below w.heap.size w w' := by
 obtain ⟨k, hk⟩ := (refMay_ev s0 sy N O (C_bound h.n.1) (rows_bnd h.o.1) (rows_bnd h.n.1)).rounds
 exact caesuraref13_MayBe.calls k s0 A0 c0 N A1 c1 O sy _ w h.n.1 h.n.2 h.o.1 h.o.2 hk
end Go.Proofs.YtfonajakaimnoaaDoor.C13

namespace Go.Proofs.YtfonajakaimnoaaDoor.Lib
open Go.RowKit Go.Proofs.YtfonajakaimnoaaDoorW.PrintWords Go.Proofs.YtfonajakaimnoaaDoorW.PrintLast Go.Proofs.YtfonajakaimnoaaDoorW.PrintMore
attribute [local go_sem] max2_int min2_int max_two min_two max_three min_three max_four min_four   -- for this text's walks alone
set_option linter.unusedVariables false
set_option linter.unusedSimpArgs false
def minimal_way.l0 : Nat → List (S95) → Int → List Int → Option (List Int)
 | 0, _, _, _ => none
 | k + 1, x0, x1, x5 => if 0 ≤ x1 then (if x1 < (x0.length : Int) then (if ((rd_T95 x0 x1).f2) ≥ 0 then (if x5.length < 17592186044416 then (minimal_way.l0 k x0 ((rd_T95 x0 x1).f2) (x5 ++ [(rd_T95 x0 x1).f1])) else (none)) else ((slices_Reverse_int_int.f k x5).bind fun t147 => (some t147))) else (none)) else (none)
def minimal_way.f (k : Nat) (l0 : List (S95)) (a1 : Int) : Option (List Int) := minimal_way.l0 k l0 a1 ([] : List Int)
set_option maxHeartbeats 8000000 in
set_option maxRecDepth 100000 in
theorem minimal_way.calls (k : Nat) (A0 : Option Addr) (c0 : Nat) (l0 : List (S95)) (a1 : Int) (r : List Int) (w : World) (hr0 : Kd.C k95 w A0 l0.length l0) (hc0 : l0.length ≤ c0) (h : minimal_way.f k l0 a1 = some r) :
  Calls Tryd.prog 66 #[.slice A0 l0.length c0, .int .i64 a1] w fun e w' => ∃ v0_ : Value, e = .returned (v0_) ∧ Kd.R (Kd.int .i64) 3 w' w.heap.size (fun _ => True) v0_ r ∧ Below w.heap.size w w' := by
 have HR0 := Aside0.mk hr0
 have HC0 := Aside0.mk hc0
 clear hr0 hc0
 have HB := Aside0.mk (Below.refl w.heap.size w)
 have H : (minimal_way.l0 k l0 a1 ([] : List Int)) = some r := h
 clear h
 have H' := Aside0.mk H
 clear H
 go_enter Tryd.func66, Tryd.ntmps66
 go_wp2
 go_loopg [1, 5] k (fun kq v1 v5 w' => ∃ (x1_1 : Int) (x5_1 : List Int), v1 = .int .i64 x1_1 ∧ Aside0 (minimal_way.l0 kq l0 x1_1 x5_1 = some r) ∧ Aside0 (kq ≤ k) ∧ Aside0 (Kd.R (Kd.int .i64) 3 w' w.heap.size (fun _ => True) v5 x5_1) ∧ Aside0 (Below w.heap.size w w'))
 case atStart => exact ⟨(a1), (([] : List Int)), (by first | rfl | (simp; done) | (simp [*]; done)), H', ⟨Nat.le_refl _⟩, ⟨by first | exact Kd.R_nil _ _ _ _ _ | exact Kd.N_nil _ _ _ _ _ | exact Kd.V_nil _ _ _ _ _ | exact Kd.Q_nil _ _ _ _ _ | exact Kd.S_nil _ _ _ _ _⟩, ⟨by repeat (first | (with_reducible first | exact HB.out | apply below_alloc | apply pw_below_drewN | apply below_drew1) | exact HB.out)⟩⟩
 case round =>
  clear H'
  try clear p2
  obtain ⟨x1_1, x5_1, rfl, HA, HK1, HO_5, HB⟩ := hrel
  cases gk with
  | zero => exact absurd HA.out (by simp [minimal_way.l0])
  | succ k1 =>
   have H := HA.out
   clear HA
   simp only [minimal_way.l0] at H
   by_cases c3 : 0 ≤ x1_1
   ·rw [if_pos c3] at H
    have c3b0 : decide (0 ≤ x1_1) = true := decide_eq_true c3
    clear c3
    by_cases c4 : x1_1 < (l0.length : Int)
    ·rw [if_pos c4] at H
     have c4b0 : decide (x1_1 < (l0.length : Int)) = true := decide_eq_true c4
     clear c4
     by_cases c5 : ((rd_T95 l0 x1_1).f2) ≥ 0
     ·rw [if_pos c5] at H
      have c5b0 : decide (0 ≤ ((rd_T95 l0 x1_1).f2)) = true := decide_eq_true c5
      clear c5
      by_cases c6 : x5_1.length < 17592186044416
      ·rw [if_pos c6] at H
       have LMc6 := Aside0.mk c6
       clear c6
       obtain ⟨y143, hy143⟩ : ∃ y_ : List Int, y_ = (x5_1 ++ [(rd_T95 l0 x1_1).f1]) := ⟨_, rfl⟩
       replace H : (minimal_way.l0 k1 l0 ((rd_T95 l0 x1_1).f2) y143) = some r := by first | (rw [hy143]; with_reducible exact H) | (have H2_ := (Option.bind_some _ _).symm.trans H; rw [hy143]; with_reducible exact H2_) | (have H2_ := (Option.bind_some _ _).symm.trans H; with_reducible exact H2_) | with_reducible exact H | (rw [hy143]; exact H) | exact H
       have Ny143 := Aside0.mk hy143
       clear hy143
       have H' := Aside0.mk H
       clear H
       have p141 : 0 ≤ (x1_1 : Int) := of_decide_eq_true (by first | (with_reducible assumption) | assumption)
       have q141 : x1_1 < (l0.length : Int) := of_decide_eq_true (by first | (with_reducible assumption) | assumption)
       obtain ⟨ad141, e141, hx141_0, hx141_1, hx141_2, hx141_3⟩ := at_T95 HR0.out x1_1 p141 q141
       cases e141
       replace hx141_0 := (HB.out.cell (World.block_lt_of_cell? w _ hx141_0)).trans hx141_0
       replace hx141_1 := (HB.out.cell (World.block_lt_of_cell? w _ hx141_1)).trans hx141_1
       replace hx141_2 := (HB.out.cell (World.block_lt_of_cell? w _ hx141_2)).trans hx141_2
       replace hx141_3 := (HB.out.cell (World.block_lt_of_cell? w _ hx141_3)).trans hx141_3
       replace p141 := eq_true p141
       replace q141 := eq_true q141
       have p142 : 0 ≤ (x1_1 : Int) := of_decide_eq_true (by first | (with_reducible assumption) | assumption)
       have q142 : x1_1 < (l0.length : Int) := of_decide_eq_true (by first | (with_reducible assumption) | assumption)
       obtain ⟨ad142, e142, hx142_0, hx142_1, hx142_2, hx142_3⟩ := at_T95 HR0.out x1_1 p142 q142
       obtain rfl : ad141 = ad142 := (by injection e142)
       replace hx142_0 := (HB.out.cell (World.block_lt_of_cell? w _ hx142_0)).trans hx142_0
       replace hx142_1 := (HB.out.cell (World.block_lt_of_cell? w _ hx142_1)).trans hx142_1
       replace hx142_2 := (HB.out.cell (World.block_lt_of_cell? w _ hx142_2)).trans hx142_2
       replace hx142_3 := (HB.out.cell (World.block_lt_of_cell? w _ hx142_3)).trans hx142_3
       replace p142 := eq_true p142
       replace q142 := eq_true q142
       go_wp2_with (first | ((with_reducible refine gate_builtin (b := .append) (xs := #[.tmp 17, .tmp 23]) rfl ?_); at_builtin; refine Kd.R_append (Kd.int .i64) (w0 := w) w.heap.size rfl (.tmp 17) (.tmp 23) 25 3 (.int .i64 0) 8 rfl Tryd.underlying25 info3 rfl (by decide) (by omega) u5 x5_1 ((rd_T95 l0 x1_1).f1) [.int .i64 ((rd_T95 l0 x1_1).f1)] (fun _ => True) (fun _ => False) rfl rfl ?aP (fun _ hk => hk.elim) ?aF ?aO ?aB ?aS ?aL ?_; (case aP => exact rfl); (case aB => exact (by repeat (first | (with_reducible first | exact HB.out | apply below_alloc | apply pw_below_drewN | apply below_drew1) | exact HB.out))); (case aF => exact (fun _ _ => trivial)); (case aO => exact (by (with_reducible repeat (first | apply Kd.R_alloc | apply Kd.R_drewN | apply Kd.R_drew)); exact HO_5.out)); (case aS => exact (below_size (by repeat (first | (with_reducible first | exact HB.out | apply below_alloc | apply pw_below_drewN | apply below_drew1) | exact HB.out)))); (case aL => have := LMc6.out; omega); intro v144 w7 ho hb hg hat; rw [← Ny143.out] at ho; have n0_ := Aside0.mk (hb); have n1_ := Aside0.mk (ho); clear HB; clear HO_5; have HB := n0_; have HO145 := n1_; clear n0_ n1_; clear ho hb hg hat; have p146 : 0 ≤ (x1_1 : Int) := of_decide_eq_true (by first | (with_reducible assumption) | assumption); have q146 : x1_1 < (l0.length : Int) := of_decide_eq_true (by first | (with_reducible assumption) | assumption); obtain ⟨ad146, e146, hx146_0, hx146_1, hx146_2, hx146_3⟩ := at_T95 HR0.out x1_1 p146 q146; obtain rfl : ad141 = ad146 := (by injection e146); replace hx146_0 := (HB.out.cell (World.block_lt_of_cell? w _ hx146_0)).trans hx146_0; replace hx146_1 := (HB.out.cell (World.block_lt_of_cell? w _ hx146_1)).trans hx146_1; replace hx146_2 := (HB.out.cell (World.block_lt_of_cell? w _ hx146_2)).trans hx146_2; replace hx146_3 := (HB.out.cell (World.block_lt_of_cell? w _ hx146_3)).trans hx146_3; replace p146 := eq_true p146; replace q146 := eq_true q146))
       go_roundg k1
       case measure => have := HK1.out; omega
       case rel => exact ⟨((rd_T95 l0 x1_1).f2), (y143), (by first | rfl | (simp; done) | (simp [*]; done)), H', ⟨by have := HK1.out; omega⟩, ⟨by (with_reducible repeat (first | apply Kd.R_alloc | apply Kd.R_drewN | apply Kd.R_drew)); exact HO145.out⟩, ⟨by repeat (first | (with_reducible first | exact HB.out | apply below_alloc | apply pw_below_drewN | apply below_drew1) | exact HB.out)⟩⟩
      ·rw [if_neg c6] at H
       exact absurd H (by simp)
     ·rw [if_neg c5] at H
      have c5b0 : decide (0 ≤ ((rd_T95 l0 x1_1).f2)) = false := decide_eq_false c5
      clear c5
      replace H := Option.bind_eq_some_iff.mp H
      obtain ⟨t147, A80, H⟩ := H
      replace H : (some t147) = some r := H
      have A8 := Aside0.mk A80
      clear A80
      obtain rfl := Option.some.inj H
      have p141 : 0 ≤ (x1_1 : Int) := of_decide_eq_true (by first | (with_reducible assumption) | assumption)
      have q141 : x1_1 < (l0.length : Int) := of_decide_eq_true (by first | (with_reducible assumption) | assumption)
      obtain ⟨ad141, e141, hx141_0, hx141_1, hx141_2, hx141_3⟩ := at_T95 HR0.out x1_1 p141 q141
      cases e141
      replace hx141_0 := (HB.out.cell (World.block_lt_of_cell? w _ hx141_0)).trans hx141_0
      replace hx141_1 := (HB.out.cell (World.block_lt_of_cell? w _ hx141_1)).trans hx141_1
      replace hx141_2 := (HB.out.cell (World.block_lt_of_cell? w _ hx141_2)).trans hx141_2
      replace hx141_3 := (HB.out.cell (World.block_lt_of_cell? w _ hx141_3)).trans hx141_3
      replace p141 := eq_true p141
      replace q141 := eq_true q141
      obtain ⟨Ao9, co9, eo9⟩ := Kd.R_slice HO_5.out
      subst eo9
      go_wp2_with (first | ((with_reducible refine gate_callee (f := 95) rfl ?_); refine goesL_ (some 26) rfl rfl Tryd.func95 (by kernel_rfl) rfl #[.slice Ao9 x5_1.length co9] rfl (by (try simp only [List.map_toArray, List.map_cons, List.map_nil]); first | done | rfl | (simp only [List.length_drop, List.length_take]; rfl)) ?_; (with_reducible refine (slices_Reverse_int_int.calls k1 (fun k_ => some k_ = (.slice Ao9 x5_1.length co9 : Value).ownBlock) (.slice Ao9 x5_1.length co9) x5_1 t147 w _ ?side1 ?side2 A8.out).mono ?_); (case side1 => repeat (first | (with_reducible first | exact HB.out | apply below_alloc | apply pw_below_drewN | apply below_drew1) | exact HB.out)); (case side2 => exact Kd.R_tight rfl HO_5.out); rintro e w10 ⟨rfl, hy0, hb, hkp⟩; refine ⟨_, rfl, ?_⟩; have n0_ := Aside0.mk (Kd.R_reok rfl hy0 (fun k_ e_ => HO_5.out.1 k_ e_)); have n1_ := Aside0.mk (hb); clear HO_5; clear HB; have HO_5 := n0_; have HB := n1_; clear n0_ n1_; (try clear hb); (try clear hkp); (try clear hy0)))
      go_ret
      exact ⟨_, by first | rfl | (simp [errW_none, errW_some] <;> rfl) | (simp [*, errW_none, errW_some] <;> rfl), by (with_reducible repeat (first | apply Kd.R_alloc | apply Kd.R_drewN | apply Kd.R_drew)); exact HO_5.out, by repeat (first | (with_reducible first | exact HB.out | apply below_alloc | apply pw_below_drewN | apply below_drew1) | exact HB.out)⟩
    ·rw [if_neg c4] at H
     exact absurd H (by simp)
   ·rw [if_neg c3] at H
    exact absurd H (by simp)
end Go.Proofs.YtfonajakaimnoaaDoor.Lib

namespace Go.Proofs.YtfonajakaimnoaaDoor.Lib
open Go.RowKit Go.Proofs.YtfonajakaimnoaaDoorW.PrintWords Go.Proofs.YtfonajakaimnoaaDoorW.PrintLast Go.Proofs.YtfonajakaimnoaaDoorW.PrintMore
attribute [local go_sem] max2_int min2_int max_two min_two max_three min_three max_four min_four   -- for this text's walks alone
set_option linter.unusedVariables false
set_option linter.unusedSimpArgs false
mutual
def caesuraref13_word.l0 : Nat → List (S102) → List Int → Int → Option (List Int)
 | 0, _, _, _ => none
 | k + 1, x0, x5, x6 => if 0 ≤ x6 then (if x6 < (x0.length : Int) then (if ((rd_T102 x0 x6).f2) ≥ 0 then (if x5.length < 17592186044416 then (caesuraref13_word.l0 k x0 (x5 ++ [(rd_T102 x0 x6).f3]) ((rd_T102 x0 x6).f2)) else (none)) else (caesuraref13_word.l1 k x5 ([] : List Int) (wrap64 ((x5.length : Int) - 1)))) else (none)) else (none)
def caesuraref13_word.l1 : Nat → List Int → List Int → Int → Option (List Int)
 | 0, _, _, _ => none
 | k + 1, x5, x7, x8 => if x8 ≥ 0 then (if 0 ≤ x8 then (if x8 < (x5.length : Int) then (if x7.length < 17592186044416 then (caesuraref13_word.l1 k x5 (x7 ++ [rd x5 x8]) (wrap64 (x8 - 1))) else (none)) else (none)) else (none)) else (some x7)
end
def caesuraref13_word.f (k : Nat) (l0 : List (S102)) (a1 : Int) : Option (List Int) := caesuraref13_word.l0 k l0 ([] : List Int) a1
set_option maxHeartbeats 8000000 in
set_option maxRecDepth 100000 in
theorem caesuraref13_word.calls (k : Nat) (A0 : Option Addr) (c0 : Nat) (l0 : List (S102)) (a1 : Int) (r : List Int) (w : World) (hr0 : Kd.C k102 w A0 l0.length l0) (hc0 : l0.length ≤ c0) (h : caesuraref13_word.f k l0 a1 = some r) :
  Calls Tryd.prog 68 #[.slice A0 l0.length c0, .int .i64 a1] w fun e w' => ∃ v0_ : Value, e = .returned (v0_) ∧ Kd.R (Kd.int .i64) 3 w' w.heap.size (fun _ => True) v0_ r ∧ Below w.heap.size w w' := by
 have HR0 := Aside0.mk hr0
 have HC0 := Aside0.mk hc0
 clear hr0 hc0
 have HB := Aside0.mk (Below.refl w.heap.size w)
 have H : (caesuraref13_word.l0 k l0 ([] : List Int) a1) = some r := h
 clear h
 have H' := Aside0.mk H
 clear H
 go_enter Tryd.func68, Tryd.ntmps68
 go_wp2
 go_loopg [5, 6] k (fun kq v5 v6 w' => ∃ (x5_1 : List Int) (x6_1 : Int), v6 = .int .i64 x6_1 ∧ Aside0 (caesuraref13_word.l0 kq l0 x5_1 x6_1 = some r) ∧ Aside0 (kq ≤ k) ∧ Aside0 (Kd.R (Kd.int .i64) 3 w' w.heap.size (fun _ => True) v5 x5_1) ∧ Aside0 (Below w.heap.size w w'))
 case atStart => exact ⟨(([] : List Int)), (a1), (by first | rfl | (simp; done) | (simp [*]; done)), H', ⟨Nat.le_refl _⟩, ⟨by first | exact Kd.R_nil _ _ _ _ _ | exact Kd.N_nil _ _ _ _ _ | exact Kd.V_nil _ _ _ _ _ | exact Kd.Q_nil _ _ _ _ _ | exact Kd.S_nil _ _ _ _ _⟩, ⟨by repeat (first | (with_reducible first | exact HB.out | apply below_alloc | apply pw_below_drewN | apply below_drew1) | exact HB.out)⟩⟩
 case round =>
  clear H'
  try clear p2
  obtain ⟨x5_1, x6_1, rfl, HA, HK1, HO_5, HB⟩ := hrel
  cases gk with
  | zero => exact absurd HA.out (by simp [caesuraref13_word.l0])
  | succ k1 =>
   have H := HA.out
   clear HA
   simp only [caesuraref13_word.l0] at H
   by_cases c3 : 0 ≤ x6_1
   ·rw [if_pos c3] at H
    have c3b0 : decide (0 ≤ x6_1) = true := decide_eq_true c3
    clear c3
    by_cases c4 : x6_1 < (l0.length : Int)
    ·rw [if_pos c4] at H
     have c4b0 : decide (x6_1 < (l0.length : Int)) = true := decide_eq_true c4
     clear c4
     by_cases c5 : ((rd_T102 l0 x6_1).f2) ≥ 0
     ·rw [if_pos c5] at H
      have c5b0 : decide (0 ≤ ((rd_T102 l0 x6_1).f2)) = true := decide_eq_true c5
      clear c5
      by_cases c6 : x5_1.length < 17592186044416
      ·rw [if_pos c6] at H
       have LMc6 := Aside0.mk c6
       clear c6
       obtain ⟨y185, hy185⟩ : ∃ y_ : List Int, y_ = (x5_1 ++ [(rd_T102 l0 x6_1).f3]) := ⟨_, rfl⟩
       replace H : (caesuraref13_word.l0 k1 l0 y185 ((rd_T102 l0 x6_1).f2)) = some r := by first | (rw [hy185]; with_reducible exact H) | (have H2_ := (Option.bind_some _ _).symm.trans H; rw [hy185]; with_reducible exact H2_) | (have H2_ := (Option.bind_some _ _).symm.trans H; with_reducible exact H2_) | with_reducible exact H | (rw [hy185]; exact H) | exact H
       have Ny185 := Aside0.mk hy185
       clear hy185
       have H' := Aside0.mk H
       clear H
       have p183 : 0 ≤ (x6_1 : Int) := of_decide_eq_true (by first | (with_reducible assumption) | assumption)
       have q183 : x6_1 < (l0.length : Int) := of_decide_eq_true (by first | (with_reducible assumption) | assumption)
       obtain ⟨ad183, e183, hx183_0, hx183_1, hx183_2, hx183_3⟩ := at_T102 HR0.out x6_1 p183 q183
       cases e183
       replace hx183_0 := (HB.out.cell (World.block_lt_of_cell? w _ hx183_0)).trans hx183_0
       replace hx183_1 := (HB.out.cell (World.block_lt_of_cell? w _ hx183_1)).trans hx183_1
       replace hx183_2 := (HB.out.cell (World.block_lt_of_cell? w _ hx183_2)).trans hx183_2
       replace hx183_3 := (HB.out.cell (World.block_lt_of_cell? w _ hx183_3)).trans hx183_3
       replace p183 := eq_true p183
       replace q183 := eq_true q183
       have p184 : 0 ≤ (x6_1 : Int) := of_decide_eq_true (by first | (with_reducible assumption) | assumption)
       have q184 : x6_1 < (l0.length : Int) := of_decide_eq_true (by first | (with_reducible assumption) | assumption)
       obtain ⟨ad184, e184, hx184_0, hx184_1, hx184_2, hx184_3⟩ := at_T102 HR0.out x6_1 p184 q184
       obtain rfl : ad183 = ad184 := (by injection e184)
       replace hx184_0 := (HB.out.cell (World.block_lt_of_cell? w _ hx184_0)).trans hx184_0
       replace hx184_1 := (HB.out.cell (World.block_lt_of_cell? w _ hx184_1)).trans hx184_1
       replace hx184_2 := (HB.out.cell (World.block_lt_of_cell? w _ hx184_2)).trans hx184_2
       replace hx184_3 := (HB.out.cell (World.block_lt_of_cell? w _ hx184_3)).trans hx184_3
       replace p184 := eq_true p184
       replace q184 := eq_true q184
       go_wp2_with (first | ((with_reducible refine gate_builtin (b := .append) (xs := #[.tmp 21, .tmp 27]) rfl ?_); at_builtin; refine Kd.R_append (Kd.int .i64) (w0 := w) w.heap.size rfl (.tmp 21) (.tmp 27) 25 3 (.int .i64 0) 8 rfl Tryd.underlying25 info3 rfl (by decide) (by omega) u5 x5_1 ((rd_T102 l0 x6_1).f3) [.int .i64 ((rd_T102 l0 x6_1).f3)] (fun _ => True) (fun _ => False) rfl rfl ?aP (fun _ hk => hk.elim) ?aF ?aO ?aB ?aS ?aL ?_; (case aP => exact rfl); (case aB => exact (by repeat (first | (with_reducible first | exact HB.out | apply below_alloc | apply pw_below_drewN | apply below_drew1) | exact HB.out))); (case aF => exact (fun _ _ => trivial)); (case aO => exact (by (with_reducible repeat (first | apply Kd.R_alloc | apply Kd.R_drewN | apply Kd.R_drew)); exact HO_5.out)); (case aS => exact (below_size (by repeat (first | (with_reducible first | exact HB.out | apply below_alloc | apply pw_below_drewN | apply below_drew1) | exact HB.out)))); (case aL => have := LMc6.out; omega); intro v186 w7 ho hb hg hat; rw [← Ny185.out] at ho; have n0_ := Aside0.mk (hb); have n1_ := Aside0.mk (ho); clear HB; clear HO_5; have HB := n0_; have HO187 := n1_; clear n0_ n1_; clear ho hb hg hat; have p188 : 0 ≤ (x6_1 : Int) := of_decide_eq_true (by first | (with_reducible assumption) | assumption); have q188 : x6_1 < (l0.length : Int) := of_decide_eq_true (by first | (with_reducible assumption) | assumption); obtain ⟨ad188, e188, hx188_0, hx188_1, hx188_2, hx188_3⟩ := at_T102 HR0.out x6_1 p188 q188; obtain rfl : ad183 = ad188 := (by injection e188); replace hx188_0 := (HB.out.cell (World.block_lt_of_cell? w _ hx188_0)).trans hx188_0; replace hx188_1 := (HB.out.cell (World.block_lt_of_cell? w _ hx188_1)).trans hx188_1; replace hx188_2 := (HB.out.cell (World.block_lt_of_cell? w _ hx188_2)).trans hx188_2; replace hx188_3 := (HB.out.cell (World.block_lt_of_cell? w _ hx188_3)).trans hx188_3; replace p188 := eq_true p188; replace q188 := eq_true q188))
       go_roundg k1
       case measure => have := HK1.out; omega
       case rel => exact ⟨(y185), ((rd_T102 l0 x6_1).f2), (by first | rfl | (simp; done) | (simp [*]; done)), H', ⟨by have := HK1.out; omega⟩, ⟨by (with_reducible repeat (first | apply Kd.R_alloc | apply Kd.R_drewN | apply Kd.R_drew)); exact HO187.out⟩, ⟨by repeat (first | (with_reducible first | exact HB.out | apply below_alloc | apply pw_below_drewN | apply below_drew1) | exact HB.out)⟩⟩
      ·rw [if_neg c6] at H
       exact absurd H (by simp)
     ·rw [if_neg c5] at H
      have c5b0 : decide (0 ≤ ((rd_T102 l0 x6_1).f2)) = false := decide_eq_false c5
      clear c5
      have H' := Aside0.mk H
      clear H
      have p183 : 0 ≤ (x6_1 : Int) := of_decide_eq_true (by first | (with_reducible assumption) | assumption)
      have q183 : x6_1 < (l0.length : Int) := of_decide_eq_true (by first | (with_reducible assumption) | assumption)
      obtain ⟨ad183, e183, hx183_0, hx183_1, hx183_2, hx183_3⟩ := at_T102 HR0.out x6_1 p183 q183
      cases e183
      replace hx183_0 := (HB.out.cell (World.block_lt_of_cell? w _ hx183_0)).trans hx183_0
      replace hx183_1 := (HB.out.cell (World.block_lt_of_cell? w _ hx183_1)).trans hx183_1
      replace hx183_2 := (HB.out.cell (World.block_lt_of_cell? w _ hx183_2)).trans hx183_2
      replace hx183_3 := (HB.out.cell (World.block_lt_of_cell? w _ hx183_3)).trans hx183_3
      replace p183 := eq_true p183
      replace q183 := eq_true q183
      obtain ⟨Ao8, co8, eo8⟩ := Kd.R_slice HO_5.out
      subst eo8
      go_wp2
      go_loopg [7, 8] k1 (fun kq v7 v8 w' => ∃ (x7_2 : List Int) (x8_2 : Int), v8 = .int .i64 x8_2 ∧ Aside0 (caesuraref13_word.l1 kq x5_1 x7_2 x8_2 = some r) ∧ Aside0 (kq ≤ k1) ∧ Aside0 (Kd.R (Kd.int .i64) 3 w' w.heap.size (fun k_ => some k_ ≠ (v7 : Value).ownBlock) (.slice Ao8 x5_1.length co8) x5_1) ∧ Aside0 (Kd.R (Kd.int .i64) 3 w' w.heap.size (fun k_ => some k_ ≠ ((.slice Ao8 x5_1.length co8) : Value).ownBlock) v7 x7_2) ∧ Aside0 (Below w.heap.size w w'))
      case atStart => exact ⟨(([] : List Int)), (wrap64 ((x5_1.length : Int) - 1)), (by first | rfl | (simp; done) | (simp [*]; done)), H', ⟨Nat.le_refl _⟩, ⟨by (with_reducible repeat (first | apply Kd.R_alloc | apply Kd.R_drewN | apply Kd.R_drew)); exact Kd.R_mono HO_5.out (fun _ hk => (by simp [Value.ownBlock]))⟩, ⟨by first | exact Kd.R_nil _ _ _ _ _ | exact Kd.N_nil _ _ _ _ _ | exact Kd.V_nil _ _ _ _ _ | exact Kd.Q_nil _ _ _ _ _ | exact Kd.S_nil _ _ _ _ _⟩, ⟨by repeat (first | (with_reducible first | exact HB.out | apply below_alloc | apply pw_below_drewN | apply below_drew1) | exact HB.out)⟩⟩
      case round =>
       clear H'
       try clear p1
       try clear q1
       try clear hx1
       try clear p2
       try clear c3
       try clear c3b0
       try clear c4
       try clear c4b0
       try clear c5
       try clear c5b0
       try clear c6
       try clear p6
       try clear hx183_0
       try clear hx183_1
       try clear hx183_2
       try clear hx183_3
       try clear hx184_0
       try clear hx184_1
       try clear hx184_2
       try clear hx184_3
       try clear hx188_0
       try clear hx188_1
       try clear hx188_2
       try clear hx188_3
       try clear p183
       try clear p184
       try clear p188
       try clear p2
       try clear q183
       try clear q184
       try clear q188
       obtain ⟨x7_2, x8_2, rfl, HA, HK2, HO_5, HO_7, HB⟩ := hrel
       cases gk with
       | zero => exact absurd HA.out (by simp [caesuraref13_word.l1])
       | succ k2 =>
        have H := HA.out
        clear HA
        simp only [caesuraref13_word.l1] at H
        by_cases c9 : x8_2 ≥ 0
        ·rw [if_pos c9] at H
         have c9b0 : decide (0 ≤ x8_2) = true := decide_eq_true c9
         clear c9
         by_cases c10 : 0 ≤ x8_2
         ·rw [if_pos c10] at H
          have c10b0 : decide (0 ≤ x8_2) = true := decide_eq_true c10
          clear c10
          by_cases c11 : x8_2 < (x5_1.length : Int)
          ·rw [if_pos c11] at H
           have c11b0 : decide (x8_2 < (x5_1.length : Int)) = true := decide_eq_true c11
           clear c11
           by_cases c12 : x7_2.length < 17592186044416
           ·rw [if_pos c12] at H
            have LMc12 := Aside0.mk c12
            clear c12
            obtain ⟨y190, hy190⟩ : ∃ y_ : List Int, y_ = (x7_2 ++ [rd x5_1 x8_2]) := ⟨_, rfl⟩
            replace H : (caesuraref13_word.l1 k2 x5_1 y190 (wrap64 (x8_2 - 1))) = some r := by first | (rw [hy190]; with_reducible exact H) | (have H2_ := (Option.bind_some _ _).symm.trans H; rw [hy190]; with_reducible exact H2_) | (have H2_ := (Option.bind_some _ _).symm.trans H; with_reducible exact H2_) | with_reducible exact H | (rw [hy190]; exact H) | exact H
            have Ny190 := Aside0.mk hy190
            clear hy190
            have H' := Aside0.mk H
            clear H
            have p189 : 0 ≤ (x8_2 : Int) := of_decide_eq_true (by first | (with_reducible assumption) | assumption)
            have q189 : x8_2 < (x5_1.length : Int) := of_decide_eq_true (by first | (with_reducible assumption) | assumption)
            obtain ⟨ad189, e189, hx189_0⟩ := Kd.at_int (Kd.R_reads' HO_5.out).2.2 x8_2 p189 q189
            cases e189
            replace p189 := eq_true p189
            replace q189 := eq_true q189
            go_wp2_with (first | ((with_reducible refine gate_builtin (b := .append) (xs := #[.tmp 36, .tmp 41]) rfl ?_); at_builtin; refine Kd.R_append (Kd.int .i64) (w0 := w) w.heap.size rfl (.tmp 36) (.tmp 41) 25 3 (.int .i64 0) 8 rfl Tryd.underlying25 info3 rfl (by decide) (by omega) u7 x7_2 (rd x5_1 x8_2) [.int .i64 (rd x5_1 x8_2)] (fun k_ => some k_ ≠ (.slice (some ad189) x5_1.length co8 : Value).ownBlock) (fun _ => False) rfl rfl ?aP (fun _ hk => hk.elim) ?aF ?aO ?aB ?aS ?aL ?_; (case aP => exact rfl); (case aB => exact (by repeat (first | (with_reducible first | exact HB.out | apply below_alloc | apply pw_below_drewN | apply below_drew1) | exact HB.out))); (case aF => exact (fun k_ hk => Kd.fresh' (Kd.R_lt (by (with_reducible repeat (first | apply Kd.R_alloc | apply Kd.R_drewN | apply Kd.R_drew)); exact HO_5.out)) k_ hk)); (case aO => exact (by (with_reducible repeat (first | apply Kd.R_alloc | apply Kd.R_drewN | apply Kd.R_drew)); exact HO_7.out)); (case aS => exact (below_size (by repeat (first | (with_reducible first | exact HB.out | apply below_alloc | apply pw_below_drewN | apply below_drew1) | exact HB.out)))); (case aL => have := LMc12.out; omega); intro v191 w13 ho hb hg hat; rw [← Ny190.out] at ho; have n0_ := Aside0.mk (Kd.R_after (ok := (fun _ => True)) (by (with_reducible repeat (first | apply Kd.R_alloc | apply Kd.R_drewN | apply Kd.R_drew)); exact Kd.R_mono HO_5.out (fun _ hk => ⟨trivial, hk⟩)) hg hat); have n1_ := Aside0.mk (hb); have n2_ := Aside0.mk (ho); clear HO_5; clear HB; clear HO_7; have HO_5 := n0_; have HB := n1_; have HO192 := n2_; clear n0_ n1_ n2_; clear ho hb hg hat))
            go_roundg k2
            case measure => have := HK1.out; have := HK2.out; omega
            case rel => exact ⟨(y190), (wrap64 (x8_2 - 1)), (by first | rfl | (simp; done) | (simp [*]; done)), H', ⟨by have := HK1.out; have := HK2.out; omega⟩, ⟨by (with_reducible repeat (first | apply Kd.R_alloc | apply Kd.R_drewN | apply Kd.R_drew)); exact Kd.R_mono HO_5.out (fun _ hk => hk.2)⟩, ⟨by (with_reducible repeat (first | apply Kd.R_alloc | apply Kd.R_drewN | apply Kd.R_drew)); exact HO192.out⟩, ⟨by repeat (first | (with_reducible first | exact HB.out | apply below_alloc | apply pw_below_drewN | apply below_drew1) | exact HB.out)⟩⟩
           ·rw [if_neg c12] at H
            exact absurd H (by simp)
          ·rw [if_neg c11] at H
           exact absurd H (by simp)
         ·rw [if_neg c10] at H
          exact absurd H (by simp)
        ·rw [if_neg c9] at H
         have c9b0 : decide (0 ≤ x8_2) = false := decide_eq_false c9
         clear c9
         obtain rfl := Option.some.inj H
         go_wp2
         go_ret
         exact ⟨_, by first | rfl | (simp [errW_none, errW_some] <;> rfl) | (simp [*, errW_none, errW_some] <;> rfl), by (with_reducible repeat (first | apply Kd.R_alloc | apply Kd.R_drewN | apply Kd.R_drew)); exact Kd.R_mono HO_7.out (fun _ hk => trivial), by repeat (first | (with_reducible first | exact HB.out | apply below_alloc | apply pw_below_drewN | apply below_drew1) | exact HB.out)⟩
    ·rw [if_neg c4] at H
     exact absurd H (by simp)
   ·rw [if_neg c3] at H
    exact absurd H (by simp)
end Go.Proofs.YtfonajakaimnoaaDoor.Lib

namespace Go.Proofs.YtfonajakaimnoaaDoor.C13
open Go.RowKit Go.Proofs.YtfonajakaimnoaaDoorW.PrintWords Go.Proofs.YtfonajakaimnoaaDoorW.PrintLast Go.Proofs.YtfonajakaimnoaaDoorW.PrintMore Go.Proofs.YtfonajakaimnoaaDoor.Lib Lent Go.Proofs.YtfonajakaimnoaaDoor.Fn Go.Proofs.YtfonajakaimnoaaDoor.C11 Go.Proofs.YtfonajakaimnoaaDoor.Lend Go.Proofs.YtfonajakaimnoaaDoor.C14
set_option linter.unusedVariables false
set_option linter.unusedSimpArgs false
structure P4 where
 a : Int
 b : Int
 sym : Int
 from_ : Int
def z4 : P4 := ⟨0, 0, 0, 0⟩
def getI (L : LL) (i k : Int) : Int := (L.getD i.toNat []).getD k.toNat 0
def metP (a b : Int) (st : List P4) : Bool := st.any fun q => decide (q.a = a) && decide (q.b = b)
def addK (N1 N2 : LL) (i : Nat) (pa pb : Int) (k : Nat) (st : List P4) : List P4 :=
 if metP (getI N1 pa k) (getI N2 pb k) st then st else st ++ [⟨getI N1 pa k, getI N2 pb k, k, i⟩]
def extK (N1 N2 : LL) (i : Nat) (pa pb : Int) (st : List P4) : Nat → List P4
 | 0 => st
 | k + 1 => addK N1 N2 i pa pb k (extK N1 N2 i pa pb st k)
def stAt (N1 N2 : LL) (sy : Nat) (s1 s2 : Int) : Nat → List P4
 | 0 => [⟨s1, s2, 0, -1⟩]
 | i + 1 => extK N1 N2 i ((stAt N1 N2 sy s1 s2 i).getD i z4).a ((stAt N1 N2 sy s1 s2 i).getD i z4).b (stAt N1 N2 sy s1 s2 i) sy
def diffP (O1 O2 : LL) (p : P4) : Bool := !decide (O1.getD p.a.toNat [] = O2.getD p.b.toNat [])
def wayB (st : List P4) : Nat → Int → List Int
 | 0, _ => []
 | n + 1, i => if (st.getD i.toNat z4).from_ ≥ 0 then (st.getD i.toNat z4).sym :: wayB st n (st.getD i.toNat z4).from_ else []
def way (st : List P4) (i : Nat) : List Int := (wayB st (i + 1) i).reverse
def ApR (N1 O1 N2 O2 : LL) (sy : Nat) (s1 s2 : Int) (word : List Int) (b : Bool) : Prop :=
 ∃ i, (∀ j < i, j < (stAt N1 N2 sy s1 s2 j).length ∧ diffP O1 O2 ((stAt N1 N2 sy s1 s2 j).getD j z4) = false) ∧
  ((i < (stAt N1 N2 sy s1 s2 i).length ∧ diffP O1 O2 ((stAt N1 N2 sy s1 s2 i).getD i z4) = true ∧ word = way (stAt N1 N2 sy s1 s2 i) i ∧ b = true) ∨
   (i = (stAt N1 N2 sy s1 s2 i).length ∧ word = [] ∧ b = false))
theorem ApR.uniq {N1 O1 N2 O2 : LL} {sy : Nat} {s1 s2 : Int} {v v' : List Int} {b b' : Bool} (h : ApR N1 O1 N2 O2 sy s1 s2 v b) (h' : ApR N1 O1 N2 O2 sy s1 s2 v' b') : v = v' ∧ b = b' := by
 obtain ⟨i, h1, h2⟩ := h
 obtain ⟨i', h1', h2'⟩ := h'
 have e : i = i' := by
  rcases Nat.lt_trichotomy i i' with hlt | he | hlt
  ·obtain ⟨g1, g2⟩ := h1' i hlt
   rcases h2 with ⟨_, hd, _⟩ | ⟨he, _⟩
   ·rw [g2] at hd; cases hd
   ·omega
  ·exact he
  ·obtain ⟨g1, g2⟩ := h1 i' hlt
   rcases h2' with ⟨_, hd, _⟩ | ⟨he, _⟩
   ·rw [g2] at hd; cases hd
   ·omega
 subst e
 rcases h2 with ⟨hl, hd, rfl, rfl⟩ | ⟨he, rfl, rfl⟩
 ·rcases h2' with ⟨_, _, rfl, rfl⟩ | ⟨he', _⟩
  ·exact ⟨rfl, rfl⟩
  ·omega
 ·rcases h2' with ⟨hl', _⟩ | ⟨_, rfl, rfl⟩
  ·omega
  ·exact ⟨rfl, rfl⟩
structure Good (n1 n2 : Nat) (st : List P4) : Prop where
 rng : ∀ p ∈ st, 0 ≤ p.a ∧ p.a < n1 ∧ 0 ≤ p.b ∧ p.b < n2
 one : ∀ (p q : P4) (i j : Nat), st[i]? = some p → st[j]? = some q → p.a = q.a → p.b = q.b → i = j
 fr : ∀ (j : Nat) (p : P4), st[j]? = some p → (j = 0 → p.from_ = -1) ∧ (0 < j → 0 ≤ p.from_ ∧ p.from_ < j)
 pos : 0 < st.length
def RowsOk (sy : Nat) (N : LL) : Prop := ∀ r ∈ N, r.length = sy ∧ ∀ x ∈ r, 0 ≤ x ∧ x < (N.length : Int)
theorem RowsOk.get {sy : Nat} {N : LL} (h : RowsOk sy N) {a : Int} {k : Nat} (h0 : 0 ≤ a) (h1 : a < N.length) (hk : k < sy) : 0 ≤ getI N a k ∧ getI N a k < N.length := by
 have hlt : a.toNat < N.length := by omega
 have hr := h (N[a.toNat]) (List.getElem_mem hlt)
 unfold getI
 rw [show N.getD a.toNat [] = N[a.toNat] by rw [List.getD_eq_getElem?_getD, List.getElem?_eq_getElem hlt]; rfl]
 have hk' : k < (N[a.toNat]).length := by omega
 rw [show (N[a.toNat]).getD (k : Int).toNat 0 = (N[a.toNat])[k] by rw [Int.toNat_natCast, List.getD_eq_getElem?_getD, List.getElem?_eq_getElem hk']; rfl]
 exact hr.2 _ (List.getElem_mem hk')
theorem metP_false {a b : Int} {st : List P4} (h : metP a b st = false) : ∀ q ∈ st, ¬ (q.a = a ∧ q.b = b) := by
 intro q hq ⟨e1, e2⟩
 have := List.any_eq_false.1 h q hq
 simp [e1, e2] at this
theorem Good.add {n1 n2 : Nat} {N1 N2 : LL} {i k : Nat} {pa pb : Int} {st : List P4} (h : Good n1 n2 st) (hi : i < st.length) (hx : 0 ≤ getI N1 pa k ∧ getI N1 pa k < n1) (hy : 0 ≤ getI N2 pb k ∧ getI N2 pb k < n2) : Good n1 n2 (addK N1 N2 i pa pb k st) := by
 unfold addK
 by_cases hm : metP (getI N1 pa k) (getI N2 pb k) st = true
 ·rw [if_pos hm]; exact h
 ·rw [if_neg hm]
  have hf := metP_false (by simpa using hm)
  generalize getI N1 pa k = x at *
  generalize getI N2 pb k = y at *
  refine ⟨?_, ?_, ?_, by simp⟩
  ·intro p hp
   rcases List.mem_append.1 hp with hp | hp
   ·exact h.rng p hp
   ·rw [List.mem_singleton.1 hp]; exact ⟨hx.1, hx.2, hy.1, hy.2⟩
  ·intro p q a b hp hq e1 e2
   rcases Nat.lt_trichotomy a st.length with ha | ha | ha
   ·rw [List.getElem?_append_left ha] at hp
    rcases Nat.lt_trichotomy b st.length with hb | hb | hb
    ·rw [List.getElem?_append_left hb] at hq
     exact h.one p q a b hp hq e1 e2
    ·subst hb
     rw [List.getElem?_append_right (Nat.le_refl _)] at hq
     simp at hq
     subst hq
     exact absurd ⟨e1, e2⟩ (hf p (List.mem_of_getElem? hp))
    ·rw [List.getElem?_append_right (by omega), List.getElem?_eq_none (by simp; omega)] at hq
     cases hq
   ·subst ha
    rw [List.getElem?_append_right (Nat.le_refl _)] at hp
    simp at hp
    subst hp
    rcases Nat.lt_trichotomy b st.length with hb | hb | hb
    ·rw [List.getElem?_append_left hb] at hq
     exact absurd ⟨e1.symm, e2.symm⟩ (hf q (List.mem_of_getElem? hq))
    ·exact hb.symm
    ·rw [List.getElem?_append_right (by omega), List.getElem?_eq_none (by simp; omega)] at hq
     cases hq
   ·rw [List.getElem?_append_right (by omega), List.getElem?_eq_none (by simp; omega)] at hp
    cases hp
  ·intro j p hj
   rcases Nat.lt_trichotomy j st.length with hb | hb | hb
   ·rw [List.getElem?_append_left hb] at hj
    exact h.fr j p hj
   ·subst hb
    rw [List.getElem?_append_right (Nat.le_refl _)] at hj
    simp at hj
    subst hj
    have := h.pos
    exact ⟨fun e => by omega, fun _ => ⟨by show (0 : Int) ≤ i; omega, by show (i : Int) < _; omega⟩⟩
   ·rw [List.getElem?_append_right (by omega), List.getElem?_eq_none (by simp; omega)] at hj
    cases hj
theorem addK_len (N1 N2 : LL) (i : Nat) (pa pb : Int) (k : Nat) (st : List P4) : st.length ≤ (addK N1 N2 i pa pb k st).length := by
 unfold addK; split <;> simp
theorem extK_len (N1 N2 : LL) (i : Nat) (pa pb : Int) (st : List P4) (k : Nat) : st.length ≤ (extK N1 N2 i pa pb st k).length := by
 induction k with
 | zero => exact Nat.le_refl _
 | succ k ih => exact Nat.le_trans ih (addK_len _ _ _ _ _ _ _)
theorem Good.ext {n1 n2 sy : Nat} {N1 N2 : LL} (h1 : RowsOk sy N1) (h2 : RowsOk sy N2) (e1 : N1.length = n1) (e2 : N2.length = n2) {i : Nat} {st : List P4} (h : Good n1 n2 st) (hi : i < st.length) {pa pb : Int} (ha : 0 ≤ pa ∧ pa < n1) (hb : 0 ≤ pb ∧ pb < n2) :
  ∀ k, k ≤ sy → Good n1 n2 (extK N1 N2 i pa pb st k) := by
 intro k
 induction k with
 | zero => intro _; exact h
 | succ k ih =>
  intro hk
  exact (ih (by omega)).add (Nat.lt_of_lt_of_le hi (extK_len _ _ _ _ _ _ _)) (by rw [← e1]; exact h1.get ha.1 (by omega) (by omega)) (by rw [← e2]; exact h2.get hb.1 (by omega) (by omega))
theorem good_at {n1 n2 : Nat} {st : List P4} (h : Good n1 n2 st) {i : Nat} (hi : i < st.length) : (0 ≤ (st.getD i z4).a ∧ (st.getD i z4).a < n1) ∧ (0 ≤ (st.getD i z4).b ∧ (st.getD i z4).b < n2) := by
 rw [List.getD_eq_getElem?_getD, List.getElem?_eq_getElem hi]
 have := h.rng st[i] (List.getElem_mem hi)
 exact ⟨⟨this.1, this.2.1⟩, this.2.2.1, this.2.2.2⟩
theorem pigeon : ∀ (m : Nat) (l : List Nat), l.Nodup → (∀ x ∈ l, x < m) → l.length ≤ m := by
 intro m
 induction m with
 | zero =>
  intro l _ h
  cases l with
  | nil => simp
  | cons x r => exact absurd (h x List.mem_cons_self) (Nat.not_lt_zero _)
 | succ m ih =>
  intro l hn h
  have h1 := ih (l.erase m) (hn.erase m) (fun x hx => by
   have h3 := (List.Nodup.mem_erase_iff hn).1 hx
   have := h x h3.2
   omega)
  have h2 := List.length_erase (a := m) (l := l)
  rw [h2] at h1
  split at h1 <;> omega
theorem Good.bound {n1 n2 : Nat} {st : List P4} (h : Good n1 n2 st) : st.length ≤ n1 * n2 := by
 have hp := pigeon (n1 * n2) (st.map fun p => p.a.toNat * n2 + p.b.toNat) ?_ ?_
 ·simpa using hp
 ·refine List.pairwise_iff_getElem.2 (fun i j hi hj hij e => ?_)
  rw [List.length_map] at hi hj
  simp only [List.getElem_map] at e
  have r1 := h.rng st[i] (List.getElem_mem _)
  have r2 := h.rng st[j] (List.getElem_mem _)
  have hn2 : 0 < n2 := by omega
  have eb : st[i].b.toNat = st[j].b.toNat := by
   have q1 := congrArg (· % n2) e
   simp only [Nat.mul_add_mod_self_right] at q1
   rwa [Nat.mod_eq_of_lt (by omega), Nat.mod_eq_of_lt (by omega)] at q1
  have ea : st[i].a.toNat = st[j].a.toNat := by
   rw [eb] at e
   have : st[i].a.toNat * n2 = st[j].a.toNat * n2 := by omega
   exact Nat.eq_of_mul_eq_mul_right hn2 this
  have := h.one st[i] st[j] i j (List.getElem?_eq_getElem _) (List.getElem?_eq_getElem _) (by omega) (by omega)
  omega
 ·intro x hx
  obtain ⟨p, hp, rfl⟩ := List.mem_map.1 hx
  have r := h.rng p hp
  have h1 : p.a.toNat + 1 ≤ n1 := by omega
  have h2 : (p.a.toNat + 1) * n2 ≤ n1 * n2 := Nat.mul_le_mul_right _ h1
  have h3 : p.b.toNat < n2 := by omega
  rw [Nat.add_mul] at h2
  omega
theorem good_start {n1 n2 : Nat} {s1 s2 : Int} (h1 : 0 ≤ s1 ∧ s1 < n1) (h2 : 0 ≤ s2 ∧ s2 < n2) : Good n1 n2 [⟨s1, s2, 0, -1⟩] := by
 refine ⟨fun p hp => by rw [List.mem_singleton.1 hp]; exact ⟨h1.1, h1.2, h2.1, h2.2⟩, fun p q i j hi hj _ _ => ?_, fun j p hj => ?_, by simp⟩
 ·have := (List.getElem?_eq_some_iff.1 hi).1
  have := (List.getElem?_eq_some_iff.1 hj).1
  simp at *
  omega
 ·have := (List.getElem?_eq_some_iff.1 hj).1
  simp at this
  subst this
  simp at hj
  subst hj
  exact ⟨fun _ => rfl, fun h => by omega⟩
end Go.Proofs.YtfonajakaimnoaaDoor.C13

namespace Go.Proofs.YtfonajakaimnoaaDoor.Lib
open Go.RowKit Go.Proofs.YtfonajakaimnoaaDoorW.PrintWords Go.Proofs.YtfonajakaimnoaaDoorW.PrintLast Go.Proofs.YtfonajakaimnoaaDoorW.PrintMore
attribute [local go_sem] max2_int min2_int max_two min_two max_three min_three max_four min_four   -- for this text's walks alone
set_option linter.unusedVariables false
set_option linter.unusedSimpArgs false
def slices_Equal_int_int.l0 : Nat → List Int → List Int → Int → Int → Option (Bool)
 | 0, _, _, _, _ => none
 | k + 1, x0, x1, x12, x13 => if x13 < x12 then (if 0 ≤ x13 then (if x13 < (x0.length : Int) then (if x13 < (x1.length : Int) then (if (rd x0 x13) = (rd x1 x13) then (slices_Equal_int_int.l0 k x0 x1 x12 (wrap64 (x13 + 1))) else (some false)) else (none)) else (none)) else (none)) else (some true)
def slices_Equal_int_int.f (k : Nat) (l0 : List Int) (l1 : List Int) : Option (Bool) := if (l0.length : Int) = (l1.length : Int) then (slices_Equal_int_int.l0 k l0 l1 (l0.length : Int) 0) else (some false)
set_option maxHeartbeats 8000000 in
set_option maxRecDepth 100000 in
theorem slices_Equal_int_int.calls (k : Nat) (A0 : Option Addr) (c0 : Nat) (l0 : List Int) (A1 : Option Addr) (c1 : Nat) (l1 : List Int) (r : Bool) (w : World) (hr0 : Kd.C (Kd.int .i64) w A0 l0.length l0) (hc0 : l0.length ≤ c0) (hr1 : Kd.C (Kd.int .i64) w A1 l1.length l1) (hc1 : l1.length ≤ c1) (h : slices_Equal_int_int.f k l0 l1 = some r) :
  Calls Tryd.prog 65 #[.slice A0 l0.length c0, .slice A1 l1.length c1] w fun e w' => e = .returned (.bool r) ∧ Drawn0 w w' := by
 have HR0 := Aside0.mk hr0
 have HC0 := Aside0.mk hc0
 clear hr0 hc0
 have HR1 := Aside0.mk hr1
 have HC1 := Aside0.mk hc1
 clear hr1 hc1
 have H : (if (l0.length : Int) = (l1.length : Int) then (slices_Equal_int_int.l0 k l0 l1 (l0.length : Int) 0) else (some false)) = some r := h
 clear h
 by_cases c3 : (l0.length : Int) = (l1.length : Int)
 ·rw [if_pos c3] at H
  have c3b0 : ((l0.length : Int) == (l1.length : Int)) = true := beq_iff_eq.mpr c3
  have c3b1 : ((l0.length : Int) != (l1.length : Int)) = false := bne_eq_false_iff_eq.mpr c3
  have c3b2 : (l0.length == l1.length) = true := by first | simpa using c3 | (simp at c3 ⊢; omega)
  clear c3
  have H' := Aside0.mk H
  clear H
  go_enter Tryd.func65, Tryd.ntmps65
  go_wp2
  repeat (go_quiet (fail); try go_wp2)
  go_loopg [13] k (fun kq v13 w' => ∃ (x13_1 : Int), v13 = .int .i64 x13_1 ∧ Aside0 (slices_Equal_int_int.l0 kq l0 l1 (l0.length : Int) x13_1 = some r) ∧ Aside0 (kq ≤ k) ∧ Drawn0 w w')
  case atStart => exact ⟨(0), (by first | rfl | (simp; done) | (simp [*]; done)), H', ⟨Nat.le_refl _⟩, by repeat (first | exact Drawn0.refl _ | apply Drawn0.step)⟩
  case round =>
   clear H'
   try clear c1
   try clear p2
   try clear c3
   try clear c3b0
   try clear c3b1
   try clear c3b2
   obtain ⟨x13_1, rfl, HA, HK1, ⟨m1, rfl⟩⟩ := hrel
   cases gk with
   | zero => exact absurd HA.out (by simp [slices_Equal_int_int.l0])
   | succ k1 =>
    have H := HA.out
    clear HA
    simp only [slices_Equal_int_int.l0] at H
    by_cases c4 : x13_1 < (l0.length : Int)
    ·rw [if_pos c4] at H
     have c4b0 : decide (x13_1 < (l0.length : Int)) = true := decide_eq_true c4
     clear c4
     by_cases c5 : 0 ≤ x13_1
     ·rw [if_pos c5] at H
      have c5b0 : decide (0 ≤ x13_1) = true := decide_eq_true c5
      clear c5
      by_cases c6 : x13_1 < (l0.length : Int)
      ·rw [if_pos c6] at H
       have c6b0 : decide (x13_1 < (l0.length : Int)) = true := decide_eq_true c6
       clear c6
       by_cases c7 : x13_1 < (l1.length : Int)
       ·rw [if_pos c7] at H
        have c7b0 : decide (x13_1 < (l1.length : Int)) = true := decide_eq_true c7
        clear c7
        by_cases c8 : (rd l0 x13_1) = (rd l1 x13_1)
        ·rw [if_pos c8] at H
         have c8b0 : ((rd l0 x13_1) == (rd l1 x13_1)) = true := beq_iff_eq.mpr c8
         have c8b1 : ((rd l0 x13_1) != (rd l1 x13_1)) = false := bne_eq_false_iff_eq.mpr c8
         clear c8
         have H' := Aside0.mk H
         clear H
         have p135 : 0 ≤ (x13_1 : Int) := of_decide_eq_true (by first | (with_reducible assumption) | assumption)
         have q135 : x13_1 < (l0.length : Int) := of_decide_eq_true (by first | (with_reducible assumption) | assumption)
         obtain ⟨ad135, e135, hx135_0⟩ := Kd.at_int HR0.out x13_1 p135 q135
         cases e135
         replace p135 := eq_true p135
         replace q135 := eq_true q135
         have p136 : 0 ≤ (x13_1 : Int) := of_decide_eq_true (by first | (with_reducible assumption) | assumption)
         have q136 : x13_1 < (l1.length : Int) := of_decide_eq_true (by first | (with_reducible assumption) | assumption)
         obtain ⟨ad136, e136, hx136_0⟩ := Kd.at_int HR1.out x13_1 p136 q136
         cases e136
         replace p136 := eq_true p136
         replace q136 := eq_true q136
         go_wp2
         repeat (go_quiet (fail); try go_wp2)
         go_roundg k1
         case measure => have := HK1.out; omega
         case rel => exact ⟨(wrap64 (x13_1 + 1)), (by first | rfl | (simp; done) | (simp [*]; done)), H', ⟨by have := HK1.out; omega⟩, by repeat (first | exact Drawn0.refl _ | apply Drawn0.step)⟩
        ·rw [if_neg c8] at H
         have c8b0 : ((rd l0 x13_1) == (rd l1 x13_1)) = false := beq_eq_false_iff_ne.mpr c8
         have c8b1 : ((rd l0 x13_1) != (rd l1 x13_1)) = true := bne_iff_ne.mpr c8
         obtain rfl := Option.some.inj H
         have p135 : 0 ≤ (x13_1 : Int) := of_decide_eq_true (by first | (with_reducible assumption) | assumption)
         have q135 : x13_1 < (l0.length : Int) := of_decide_eq_true (by first | (with_reducible assumption) | assumption)
         obtain ⟨ad135, e135, hx135_0⟩ := Kd.at_int HR0.out x13_1 p135 q135
         cases e135
         replace p135 := eq_true p135
         replace q135 := eq_true q135
         have p136 : 0 ≤ (x13_1 : Int) := of_decide_eq_true (by first | (with_reducible assumption) | assumption)
         have q136 : x13_1 < (l1.length : Int) := of_decide_eq_true (by first | (with_reducible assumption) | assumption)
         obtain ⟨ad136, e136, hx136_0⟩ := Kd.at_int HR1.out x13_1 p136 q136
         cases e136
         replace p136 := eq_true p136
         replace q136 := eq_true q136
         go_wp2
         repeat (go_quiet (fail); try go_wp2)
         go_ret
         exact ⟨by first | rfl | (simp; done) | (simp [*]; done), by repeat (first | exact Drawn0.refl _ | apply Drawn0.step)⟩
       ·rw [if_neg c7] at H
        exact absurd H (by simp)
      ·rw [if_neg c6] at H
       exact absurd H (by simp)
     ·rw [if_neg c5] at H
      exact absurd H (by simp)
    ·rw [if_neg c4] at H
     have c4b0 : decide (x13_1 < (l0.length : Int)) = false := decide_eq_false c4
     clear c4
     obtain rfl := Option.some.inj H
     go_wp2
     repeat (go_quiet (fail); try go_wp2)
     go_ret
     exact ⟨by first | rfl | (simp; done) | (simp [*]; done), by repeat (first | exact Drawn0.refl _ | apply Drawn0.step)⟩
 ·rw [if_neg c3] at H
  have c3b0 : ((l0.length : Int) == (l1.length : Int)) = false := beq_eq_false_iff_ne.mpr c3
  have c3b1 : ((l0.length : Int) != (l1.length : Int)) = true := bne_iff_ne.mpr c3
  have c3b2 : (l0.length == l1.length) = false := by first | simpa using c3 | (simp at c3 ⊢; omega)
  obtain rfl := Option.some.inj H
  go_enter Tryd.func65, Tryd.ntmps65
  go_wp2
  repeat (go_quiet (fail); try go_wp2)
  go_ret
  exact ⟨by first | rfl | (simp; done) | (simp [*]; done), by repeat (first | exact Drawn0.refl _ | apply Drawn0.step)⟩
end Go.Proofs.YtfonajakaimnoaaDoor.Lib

namespace Go.Proofs.YtfonajakaimnoaaDoor.C13
open Go.RowKit Go.Proofs.YtfonajakaimnoaaDoorW.PrintWords Go.Proofs.YtfonajakaimnoaaDoorW.PrintLast Go.Proofs.YtfonajakaimnoaaDoorW.PrintMore Go.Proofs.YtfonajakaimnoaaDoor.Lib Lent Go.Proofs.YtfonajakaimnoaaDoor.Fn Go.Proofs.YtfonajakaimnoaaDoor.C11 Go.Proofs.YtfonajakaimnoaaDoor.Lend Go.Proofs.YtfonajakaimnoaaDoor.C14
set_option linter.unusedVariables false
set_option linter.unusedSimpArgs false
def toS (p : P4) : S95 := ⟨⟨p.a, p.b⟩, p.sym, p.from_⟩
def toD (p : P4) : S102 := ⟨p.a, p.b, p.from_, p.sym⟩
theorem rdS (st : List P4) (i : Nat) : rd_T95 (st.map toS) (i : Int) = toS (st.getD i z4) := by
 unfold rd_T95
 rw [show ((i : Int)).toNat = i from rfl, List.getD_eq_getElem?_getD, List.getElem?_map, List.getD_eq_getElem?_getD]
 cases st[i]? <;> rfl
theorem rdD (st : List P4) (i : Nat) : rd_T102 (st.map toD) (i : Int) = toD (st.getD i z4) := by
 unfold rd_T102
 rw [show ((i : Int)).toNat = i from rfl, List.getD_eq_getElem?_getD, List.getElem?_map, List.getD_eq_getElem?_getD]
 cases st[i]? <;> rfl
theorem fr_at {n1 n2 : Nat} {st : List P4} (h : Good n1 n2 st) {i : Nat} (hi : i < st.length) (hf : (st.getD i z4).from_ ≥ 0) : ∃ j : Nat, (st.getD i z4).from_ = j ∧ j < i := by
 rw [List.getD_eq_getElem?_getD, List.getElem?_eq_getElem hi] at hf ⊢
 have hr := h.fr i st[i] (List.getElem?_eq_getElem hi)
 simp only [Option.getD_some] at hf ⊢
 have hp : 0 < i := by
  rcases Nat.eq_zero_or_pos i with e | e
  ·have := hr.1 e; omega
  ·exact e
 have := hr.2 hp
 exact ⟨st[i].from_.toNat, by omega, by omega⟩
theorem way_loop {n1 n2 : Nat} {st : List P4} (h : Good n1 n2 st) : ∀ (n i : Nat) (acc : List Int), i < n → i < st.length → acc.length + i ≤ 17592186044300 → Ev (fun k => minimal_way.l0 k (st.map toS) (i : Int) acc) (acc ++ wayB st n i).reverse := by
 intro n
 induction n with
 | zero => intro i acc hi; omega
 | succ n ih =>
  intro i acc hi hl hb
  have hlen : (i : Int) < ((st.map toS).length : Int) := by rw [List.length_map]; omega
  by_cases hf : (st.getD i z4).from_ ≥ 0
  ·obtain ⟨j, hj, hji⟩ := fr_at h hl hf
   have hw : wayB st (n + 1) i = (st.getD i z4).sym :: wayB st n j := by
    show (if (st.getD ((i : Int)).toNat z4).from_ ≥ 0 then _ else _) = _
    rw [Int.toNat_natCast, if_pos hf, hj]
   rw [hw, show acc ++ (st.getD i z4).sym :: wayB st n j = (acc ++ [(st.getD i z4).sym]) ++ wayB st n j by simp]
   refine Ev.step (f := fun k => minimal_way.l0 k (st.map toS) (j : Int) (acc ++ [(st.getD i z4).sym])) (fun k => ?_) (ih j (acc ++ [(st.getD i z4).sym]) (by omega) (by omega) (by rw [List.length_append, List.length_singleton]; omega))
   conv => lhs; unfold minimal_way.l0
   rw [if_pos (by omega), if_pos hlen, rdS]
   show (if (st.getD i z4).from_ ≥ 0 then _ else _) = _
   rw [if_pos hf, if_pos (by omega)]
   show minimal_way.l0 k (st.map toS) (st.getD i z4).from_ _ = _
   rw [hj]
   rfl
  ·have hw : wayB st (n + 1) i = [] := by
    show (if (st.getD ((i : Int)).toNat z4).from_ ≥ 0 then _ else _) = _
    rw [Int.toNat_natCast, if_neg hf]
   rw [hw, List.append_nil]
   refine Ev.step (f := fun k => (slices_Reverse_int_int.f k acc).bind fun t => some t) (fun k => ?_) (Ev.bind (reverse_ev acc (by omega)) (Ev.now _))
   conv => lhs; unfold minimal_way.l0
   rw [if_pos (by omega), if_pos hlen, rdS]
   show (if (st.getD i z4).from_ ≥ 0 then _ else _) = _
   rw [if_neg hf]
theorem way_ev {n1 n2 : Nat} {st : List P4} (h : Good n1 n2 st) {i : Nat} (hi : i < st.length) (hb : st.length ≤ 17592186044000) : Ev (fun k => minimal_way.f k (st.map toS) (i : Int)) (way st i) := by
 have := way_loop h (i + 1) i [] (by omega) hi (by simp; omega)
 rwa [List.nil_append] at this
theorem word_loop1 (bk : List Int) (hb : bk.length ≤ 17592186044400) : ∀ (j : Nat) (acc : List Int), j ≤ bk.length → acc.length + j ≤ 17592186044400 → Ev (fun k => caesuraref13_word.l1 k bk acc ((j : Int) - 1)) (acc ++ (bk.take j).reverse) := by
 intro j
 induction j with
 | zero =>
  intro acc _ _
  refine Ev.step (f := fun _ => some (acc ++ (bk.take 0).reverse)) (fun k => ?_) (Ev.now _)
  conv => lhs; unfold caesuraref13_word.l1
  rw [if_neg (by omega)]
  simp
 | succ j ih =>
  intro acc hj ha
  have hx := rd_nat bk j (by omega)
  have e : (bk.take (j + 1)).reverse = bk[j] :: (bk.take j).reverse := by
   rw [List.take_add_one, List.getElem?_eq_getElem (by omega)]
   simp
  rw [e, show acc ++ bk[j] :: (bk.take j).reverse = (acc ++ [bk[j]]) ++ (bk.take j).reverse by simp]
  refine Ev.step (f := fun k => caesuraref13_word.l1 k bk (acc ++ [bk[j]]) ((j : Int) - 1)) (fun k => ?_) (ih (acc ++ [bk[j]]) (by omega) (by rw [List.length_append, List.length_singleton]; omega))
  conv => lhs; unfold caesuraref13_word.l1
  have e2 : ((j + 1 : Nat) : Int) - 1 = (j : Int) := by omega
  rw [e2, if_pos (by omega), if_pos (by omega), if_pos (by omega), if_pos (by omega), hx]
  have e3 : wrap64 ((j : Int) - 1) = (j : Int) - 1 := by unfold wrap64; omega
  rw [e3]
theorem word_loop {n1 n2 : Nat} {st : List P4} (h : Good n1 n2 st) : ∀ (n i : Nat) (acc : List Int), i < n → i < st.length → acc.length + i ≤ 17592186044300 → Ev (fun k => caesuraref13_word.l0 k (st.map toD) acc (i : Int)) (acc ++ wayB st n i).reverse := by
 intro n
 induction n with
 | zero => intro i acc hi; omega
 | succ n ih =>
  intro i acc hi hl hb
  have hlen : (i : Int) < ((st.map toD).length : Int) := by rw [List.length_map]; omega
  by_cases hf : (st.getD i z4).from_ ≥ 0
  ·obtain ⟨j, hj, hji⟩ := fr_at h hl hf
   have hw : wayB st (n + 1) i = (st.getD i z4).sym :: wayB st n j := by
    show (if (st.getD ((i : Int)).toNat z4).from_ ≥ 0 then _ else _) = _
    rw [Int.toNat_natCast, if_pos hf, hj]
   rw [hw, show acc ++ (st.getD i z4).sym :: wayB st n j = (acc ++ [(st.getD i z4).sym]) ++ wayB st n j by simp]
   refine Ev.step (f := fun k => caesuraref13_word.l0 k (st.map toD) (acc ++ [(st.getD i z4).sym]) (j : Int)) (fun k => ?_) (ih j (acc ++ [(st.getD i z4).sym]) (by omega) (by omega) (by rw [List.length_append, List.length_singleton]; omega))
   conv => lhs; unfold caesuraref13_word.l0
   rw [if_pos (by omega), if_pos hlen, rdD]
   show (if (st.getD i z4).from_ ≥ 0 then _ else _) = _
   rw [if_pos hf, if_pos (by omega)]
   show caesuraref13_word.l0 k (st.map toD) _ (st.getD i z4).from_ = _
   rw [hj]
   rfl
  ·have hw : wayB st (n + 1) i = [] := by
    show (if (st.getD ((i : Int)).toNat z4).from_ ≥ 0 then _ else _) = _
    rw [Int.toNat_natCast, if_neg hf]
   rw [hw, List.append_nil]
   have hin := word_loop1 acc (by omega) acc.length [] (by omega) (by rw [List.length_nil]; omega)
   rw [List.take_length, List.nil_append] at hin
   refine Ev.step (f := fun k => caesuraref13_word.l1 k acc [] ((acc.length : Int) - 1)) (fun k => ?_) hin
   conv => lhs; unfold caesuraref13_word.l0
   rw [if_pos (by omega), if_pos hlen, rdD]
   show (if (st.getD i z4).from_ ≥ 0 then _ else _) = _
   rw [if_neg hf, show wrap64 ((acc.length : Int) - 1) = (acc.length : Int) - 1 by unfold wrap64; omega]
theorem word_ev {n1 n2 : Nat} {st : List P4} (h : Good n1 n2 st) {i : Nat} (hi : i < st.length) (hb : st.length ≤ 17592186044000) : Ev (fun k => caesuraref13_word.f k (st.map toD) (i : Int)) (way st i) := by
 have := word_loop h (i + 1) i [] (by omega) hi (by simp; omega)
 rwa [List.nil_append] at this
theorem drop_eq_cons {x y : List Int} {i : Nat} (h : x.length = y.length) (hi : i < x.length) : decide (x.drop i = y.drop i) = (decide (x[i] = y[i]) && decide (x.drop (i + 1) = y.drop (i + 1))) := by
 rw [drop_cons x i hi, drop_cons y i (by omega)]
 have q : (x[i] :: x.drop (i + 1) = y[i] :: y.drop (i + 1)) ↔ (x[i] = y[i] ∧ x.drop (i + 1) = y.drop (i + 1)) := by rw [List.cons.injEq]
 rw [decide_eq_decide.2 q, Bool.decide_and]
theorem equal_loop (x y : List Int) (h : x.length = y.length) (hl : x.length ≤ 9223372036854775807) : ∀ (d i : Nat), i ≤ x.length → x.length - i = d → Ev (fun k => slices_Equal_int_int.l0 k x y (x.length : Int) (i : Int)) (decide (x.drop i = y.drop i)) := by
 intro d
 induction d with
 | zero =>
  intro i hi hd
  rw [List.drop_of_length_le (by omega), List.drop_of_length_le (by omega)]
  refine Ev.step (f := fun _ => some true) (fun k => ?_) (by simpa using Ev.now true)
  conv => lhs; unfold slices_Equal_int_int.l0
  rw [if_neg (by omega)]
 | succ d ih =>
  intro i hi hd
  have hlt : i < x.length := by omega
  have hx := rd_nat x i hlt
  have hy := rd_nat y i (by omega)
  have hw := Aside0.mk (w_succ hlt hl)
  rw [drop_eq_cons h hlt]
  by_cases e : x[i] = y[i]
  ·refine Ev.step (f := fun k => slices_Equal_int_int.l0 k x y (x.length : Int) ((i + 1 : Nat) : Int)) (fun k => ?_) (by rw [decide_eq_true e, Bool.true_and]; exact ih (i + 1) (by omega) (by omega))
   conv => lhs; unfold slices_Equal_int_int.l0
   rw [if_pos (by omega), if_pos (by omega), if_pos (by omega), if_pos (by omega), hx, hy, if_pos e, hw.out]
  ·refine Ev.step (f := fun _ => some false) (fun k => ?_) (by rw [decide_eq_false e, Bool.false_and]; exact Ev.now _)
   conv => lhs; unfold slices_Equal_int_int.l0
   rw [if_pos (by omega), if_pos (by omega), if_pos (by omega), if_pos (by omega), hx, hy, if_neg e]
theorem equal_ev (x y : List Int) (hl : x.length ≤ 9223372036854775807) : Ev (fun k => slices_Equal_int_int.f k x y) (decide (x = y)) := by
 unfold slices_Equal_int_int.f
 by_cases h : x.length = y.length
 ·simp only [if_pos (show (x.length : Int) = (y.length : Int) by omega)]
  simpa using equal_loop x y h hl x.length 0 (by omega) (by omega)
 ·simp only [if_neg (show ¬ (x.length : Int) = (y.length : Int) by omega)]
  rw [decide_eq_false (fun e => h (by rw [e]))]
  exact Ev.now _
theorem same_loop (x y : List Int) (h : x.length = y.length) (hl : x.length ≤ 9223372036854775807) : ∀ (d i : Nat), i ≤ x.length → x.length - i = d → Ev (fun k => caesuraref0_SameInts.l0 k x y (i : Int)) (decide (x.drop i = y.drop i)) := by
 intro d
 induction d with
 | zero =>
  intro i hi hd
  rw [List.drop_of_length_le (by omega), List.drop_of_length_le (by omega)]
  refine Ev.step (f := fun _ => some true) (fun k => ?_) (by simpa using Ev.now true)
  conv => lhs; unfold caesuraref0_SameInts.l0
  rw [if_neg (by omega)]
 | succ d ih =>
  intro i hi hd
  have hlt : i < x.length := by omega
  have hx := rd_nat x i hlt
  have hy := rd_nat y i (by omega)
  have hw := Aside0.mk (w_succ hlt hl)
  rw [drop_eq_cons h hlt]
  by_cases e : x[i] = y[i]
  ·refine Ev.step (f := fun k => caesuraref0_SameInts.l0 k x y ((i + 1 : Nat) : Int)) (fun k => ?_) (by rw [decide_eq_true e, Bool.true_and]; exact ih (i + 1) (by omega) (by omega))
   conv => lhs; unfold caesuraref0_SameInts.l0
   rw [if_pos (by omega), if_pos (by omega), if_pos (by omega), hx, hy, if_pos e, hw.out]
  ·refine Ev.step (f := fun _ => some false) (fun k => ?_) (by rw [decide_eq_false e, Bool.false_and]; exact Ev.now _)
   conv => lhs; unfold caesuraref0_SameInts.l0
   rw [if_pos (by omega), if_pos (by omega), if_pos (by omega), hx, hy, if_neg e]
theorem same_ev13 (x y : List Int) (hl : x.length ≤ 9223372036854775807) : Ev (fun k => caesuraref0_SameInts.f k x y) (decide (x = y)) := by
 unfold caesuraref0_SameInts.f
 by_cases h : x.length = y.length
 ·simp only [if_pos (show (x.length : Int) = (y.length : Int) by omega)]
  simpa using same_loop x y h hl x.length 0 (by omega) (by omega)
 ·simp only [if_neg (show ¬ (x.length : Int) = (y.length : Int) by omega)]
  rw [decide_eq_false (fun e => h (by rw [e]))]
  exact Ev.now _
theorem equal_c {A B : Option Addr} {c d : Nat} {x y : List Int} {w : World} (h : Kd.C kI w A x.length x) (hc : x.length ≤ c) (h' : Kd.C kI w B y.length y) (hd : y.length ≤ d) :
  Calls Tryd.prog 65 #[.slice A x.length c, .slice B y.length d] w fun e w' => e = .returned (.bool (decide (x = y))) ∧ Below w.heap.size w w' := by
 obtain ⟨k, hk⟩ := (equal_ev x y (C_bound h)).rounds
 refine (slices_Equal_int_int.calls k A c x B d y _ w h hc h' hd hk).mono ?_
 rintro e w1 ⟨rfl, ⟨⟨n, rfl⟩⟩⟩
 exact ⟨rfl, pw_below_drewN (Below.refl _ _) n⟩
theorem sameI_c {A B : Option Addr} {c d : Nat} {x y : List Int} {w : World} (h : Kd.C kI w A x.length x) (hc : x.length ≤ c) (h' : Kd.C kI w B y.length y) (hd : y.length ≤ d) :
  Calls Tryd.prog 16 #[.slice A x.length c, .slice B y.length d] w fun e w' => e = .returned (.bool (decide (x = y))) ∧ Below w.heap.size w w' := by
 obtain ⟨k, hk⟩ := (same_ev13 x y (C_bound h)).rounds
 refine (caesuraref0_SameInts.calls k A c x B d y _ w h hc h' hd hk).mono ?_
 rintro e w1 ⟨rfl, ⟨⟨n, rfl⟩⟩⟩
 exact ⟨rfl, pw_below_drewN (Below.refl _ _) n⟩
theorem way_c {n1 n2 : Nat} {st : List P4} (h : Good n1 n2 st) {i : Nat} (hi : i < st.length) (hb : st.length ≤ 17592186044000) {A : Option Addr} {c : Nat} {w : World} (hC : Kd.C k95 w A (st.map toS).length (st.map toS)) (hc : (st.map toS).length ≤ c) :
  Calls Tryd.prog 66 #[.slice A st.length c, .int .i64 i] w fun e w' => ∃ v : Value, e = .returned v ∧ Kd.R kI 3 w' w.heap.size (fun _ => True) v (way st i) ∧ Below w.heap.size w w' := by
 obtain ⟨k, hk⟩ := (way_ev h hi hb).rounds
 have := minimal_way.calls k A c (st.map toS) i (way st i) w hC hc hk
 rwa [List.length_map] at this
theorem word_c {n1 n2 : Nat} {st : List P4} (h : Good n1 n2 st) {i : Nat} (hi : i < st.length) (hb : st.length ≤ 17592186044000) {A : Option Addr} {c : Nat} {w : World} (hC : Kd.C k102 w A (st.map toD).length (st.map toD)) (hc : (st.map toD).length ≤ c) :
  Calls Tryd.prog 68 #[.slice A st.length c, .int .i64 i] w fun e w' => ∃ v : Value, e = .returned v ∧ Kd.R kI 3 w' w.heap.size (fun _ => True) v (way st i) ∧ Below w.heap.size w w' := by
 obtain ⟨k, hk⟩ := (word_ev h hi hb).rounds
 have := caesuraref13_word.calls k A c (st.map toD) i (way st i) w hC hc hk
 rwa [List.length_map] at this
end Go.Proofs.YtfonajakaimnoaaDoor.C13
