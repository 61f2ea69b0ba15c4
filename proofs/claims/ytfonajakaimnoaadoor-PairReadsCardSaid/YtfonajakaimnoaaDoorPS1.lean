/- Part of a proof: texts of one seat, one behind the other. -/
import Derived.Test.YtfonajakaimnoaaDoorProg
import Derived.Below
import Derived.Deep.Draws
import Derived.Deep.AppendLies
import Derived.Maps.AppendAt
import Derived.OwnWalk
import Derived.Laws.BytesArg
import Derived.Laws.MakeOwn
import Derived.Laws.OwnMore
import Derived.Deep.OwnRows
import Derived.Tactics
import Derived.Lib.ConvBytes
import Derived.Laws.Slices
import Derived.WalkKit
import Derived.KernelRfl
import Derived.RowKit3
import Derived.Deep.LoopGhost
import Derived.Deep.QuietTactic
import Derived.BigQuiet
import Derived.WideLaws
import Derived.Deep.DeepCutAuto
import Derived.Deep.CutBlock
import Derived.Deep.RegionHeld3
import Derived.Laws.Rows
import Derived.Lib.AppendStr
import Derived.ArgAppend
import Derived.Laws.IdiomCopy
import Derived.OrdersHeld
import Derived.Laws.BitsLemmas
import Derived.RowKit
import Derived.Test.YtfonajakaimnoaaDoorPS0
import Derived.Laws.StructEq
import Derived.Laws.EntriesVeiled
import Derived.Shelf.Abstract
import Derived.Lib.SliceRun
import Derived.StillTailTactics

namespace Go.Proofs.YtfonajakaimnoaaDoor.Lib
open Go.RowKit Go.Proofs.YtfonajakaimnoaaDoorW.PrintWords Go.Proofs.YtfonajakaimnoaaDoorW.PrintLast Go.Proofs.YtfonajakaimnoaaDoorW.PrintMore
attribute [local go_sem] max2_int min2_int max_two min_two max_three min_three max_four min_four   -- for this text's walks alone
set_option linter.unusedVariables false
set_option linter.unusedSimpArgs false
def errW : Option Int → Value
 | none => .nilIface
 | some c => .iface 0 (.int .i64 c)
theorem errW_none : errW none = .nilIface := rfl
theorem errW_some (c : Int) : errW (some c) = .iface 0 (.int .i64 c) := rfl
theorem info3 : (Tryd.prog.info? 3).map (fun i => (i.zero, i.size, i.bytes)) = some (some (.int .i64 0), 1, 8) := by kernel_rfl
theorem info4 : (Tryd.prog.info? 4).map (fun i => (i.zero, i.size, i.bytes)) = some (some (.bool false), 1, 1) := by kernel_rfl
theorem info25 : (Tryd.prog.info? 25).map (fun i => (i.zero, i.size, i.bytes)) = some (some (.slice none 0 0), 1, 24) := by kernel_rfl
def rd_L1 (xs : List (List Int)) (i : Int) : (List Int) := xs.getD i.toNat ([] : List Int)
theorem at_L1 {w : World} {A : Option Addr} {n : Nat} {xs : List (List Int)} (h : Kd.C (Kd.slice 3 (Kd.int .i64)) w A n xs) (i : Int) (h0 : 0 ≤ i) (h1 : i < n) : ∃ ad A0 c0, A = some ad ∧ w.cell? (ad.add i.toNat) = some (.slice A0 (rd_L1 xs i).length c0) ∧ (rd_L1 xs i).length ≤ c0 ∧ (Kd.int .i64).C w A0 (rd_L1 xs i).length (rd_L1 xs i) := by
 obtain ⟨ad, c, e, _, hK, hc0⟩ := Kd.C_get h ([] : List Int) i h0 h1
 have hc : ∀ j u, c[j]? = some u → w.cell? (ad.add (i.toNat * 1 + j)) = some u := hc0
 obtain ⟨A0, c0, rfl, l0, g0⟩ := hK
 exact ⟨ad, A0, c0, e, by have hq := hc 0 _ rfl; rwa [Nat.mul_one, Nat.add_zero] at hq, l0, g0⟩
end Go.Proofs.YtfonajakaimnoaaDoor.Lib

namespace Go.Proofs.YtfonajakaimnoaaDoor.Lib
open Go.RowKit
def errI (eA : Value) (r : Int) : Value := if r = 0 then .nilIface else eA
end Go.Proofs.YtfonajakaimnoaaDoor.Lib

namespace Go.Proofs.YtfonajakaimnoaaDoor.Lib
open Go.RowKit Go.Proofs.YtfonajakaimnoaaDoorW.PrintWords Go.Proofs.YtfonajakaimnoaaDoorW.PrintLast Go.Proofs.YtfonajakaimnoaaDoorW.PrintMore
attribute [local go_sem] max2_int min2_int max_two min_two max_three min_three max_four min_four   -- for this text's walks alone
set_option linter.unusedVariables false
set_option linter.unusedSimpArgs false
mutual
def machine_Check.j0 : Nat → Int → Int → Int → Bool → Int → List (List Int) → List (List Int) → Option (Int)
 | 0, _, _, _, _, _, _, _ => none
 | k + 1, x1, x2, x7, x59, x535000, x535001, x535002 => if x59 = true then (some 1) else (machine_Check.l0 k x1 x2 x7 x535001 (x535001.length : Int) 0 x535000 x535001 x535002)
def machine_Check.l0 : Nat → Int → Int → Int → List (List Int) → Int → Int → Int → List (List Int) → List (List Int) → Option (Int)
 | 0, _, _, _, _, _, _, _, _, _ => none
 | k + 1, x1, x2, x7, x62, x63, x64, x535000, x535001, x535002 => if x64 < x63 then (if 0 ≤ x64 then (if x64 < (x62.length : Int) then (if ((rd_L1 x62 x64).length : Int) = x1 then (machine_Check.l1 k x1 x2 x7 x64 x62 x63 x64 (rd_L1 x62 x64) ((rd_L1 x62 x64).length : Int) 0 x535000 x535001 x535002) else (some 1)) else (none)) else (none)) else (some 0)
def machine_Check.l1 : Nat → Int → Int → Int → Int → List (List Int) → Int → Int → List Int → Int → Int → Int → List (List Int) → List (List Int) → Option (Int)
 | 0, _, _, _, _, _, _, _, _, _, _, _, _, _ => none
 | k + 1, x1, x2, x7, x8, x62, x63, x64, x74, x75, x76, x535000, x535001, x535002 => if x76 < x75 then (if 0 ≤ x76 then (if x76 < (x74.length : Int) then (if (rd x74 x76) < 0 then (some 1) else (if (rd x74 x76) ≥ x7 then (some 1) else (machine_Check.l1 k x1 x2 x7 x8 x62 x63 x64 x74 x75 (wrap64 (x76 + 1)) x535000 x535001 x535002))) else (none)) else (none)) else (if 0 ≤ x8 then (if x8 < (x535002.length : Int) then (machine_Check.l2 k x1 x2 x7 (-1) x62 x63 x64 (rd_L1 x535002 x8) ((rd_L1 x535002 x8).length : Int) 0 x535000 x535001 x535002) else (none)) else (none))
def machine_Check.l2 : Nat → Int → Int → Int → Int → List (List Int) → Int → Int → List Int → Int → Int → Int → List (List Int) → List (List Int) → Option (Int)
 | 0, _, _, _, _, _, _, _, _, _, _, _, _, _ => none
 | k + 1, x1, x2, x7, x12, x62, x63, x64, x93, x94, x95, x535000, x535001, x535002 => if x95 < x94 then (if 0 ≤ x95 then (if x95 < (x93.length : Int) then (if (rd x93 x95) ≤ x12 then (some 1) else (if (rd x93 x95) ≥ x2 then (some 1) else (machine_Check.l2 k x1 x2 x7 (rd x93 x95) x62 x63 x64 x93 x94 (wrap64 (x95 + 1)) x535000 x535001 x535002))) else (none)) else (none)) else (machine_Check.l0 k x1 x2 x7 x62 x63 (wrap64 (x64 + 1)) x535000 x535001 x535002)
end
def machine_Check.f (k : Nat) (a0_0 : Int) (l0_1 : List (List Int)) (l0_2 : List (List Int)) (a1 : Int) (a2 : Int) : Option (Int) := if a1 < 1 then (machine_Check.j0 k a1 a2 (l0_1.length : Int) true a0_0 l0_1 l0_2) else (if a1 > 16384 then (machine_Check.j0 k a1 a2 (l0_1.length : Int) true a0_0 l0_1 l0_2) else (if a2 < 0 then (machine_Check.j0 k a1 a2 (l0_1.length : Int) true a0_0 l0_1 l0_2) else (if (l0_1.length : Int) < 1 then (machine_Check.j0 k a1 a2 (l0_1.length : Int) true a0_0 l0_1 l0_2) else (if (l0_1.length : Int) > 16384 then (machine_Check.j0 k a1 a2 (l0_1.length : Int) true a0_0 l0_1 l0_2) else (if (l0_2.length : Int) = (l0_1.length : Int) then (if (wrap64 ((l0_1.length : Int) * a1)) > 4194304 then (machine_Check.j0 k a1 a2 (l0_1.length : Int) true a0_0 l0_1 l0_2) else (if a0_0 < 0 then (machine_Check.j0 k a1 a2 (l0_1.length : Int) true a0_0 l0_1 l0_2) else (machine_Check.j0 k a1 a2 (l0_1.length : Int) (decide (a0_0 ≥ (l0_1.length : Int))) a0_0 l0_1 l0_2))) else (machine_Check.j0 k a1 a2 (l0_1.length : Int) true a0_0 l0_1 l0_2))))))
set_option maxHeartbeats 8000000 in
set_option maxRecDepth 100000 in
theorem machine_Check.calls (k : Nat) (a0_0 : Int) (A0_1 : Option Addr) (c0_1 : Nat) (l0_1 : List (List Int)) (A0_2 : Option Addr) (c0_2 : Nat) (l0_2 : List (List Int)) (a1 : Int) (a2 : Int) (r : Int) (eA : Value) (w : World) (hA : w.cell? ⟨0, 0, none⟩ = some eA) (hr0_1 : Kd.C (Kd.slice 3 (Kd.int .i64)) w A0_1 l0_1.length l0_1) (hc0_1 : l0_1.length ≤ c0_1) (hr0_2 : Kd.C (Kd.slice 3 (Kd.int .i64)) w A0_2 l0_2.length l0_2) (hc0_2 : l0_2.length ≤ c0_2) (h : machine_Check.f k a0_0 l0_1 l0_2 a1 a2 = some r) :
  Calls Tryd.prog 91 #[.agg #[.int .i64 a0_0, .slice A0_1 l0_1.length c0_1, .slice A0_2 l0_2.length c0_2], .int .i64 a1, .int .i64 a2] w fun e w' => e = .returned (errI eA r) ∧ Below w.heap.size w w' := by
 have HAll : Aside0 (∀ W, Below w.heap.size w W → W.cell? ⟨0, 0, none⟩ = some eA) := ⟨fun W hb => pw_cell_below hb hA⟩
 clear hA
 have hu24 := Tryd.underlying24
 have HR0_1 := Aside0.mk hr0_1
 have HC0_1 := Aside0.mk hc0_1
 clear hr0_1 hc0_1
 have HR0_2 := Aside0.mk hr0_2
 have HC0_2 := Aside0.mk hc0_2
 clear hr0_2 hc0_2
 have HB := Aside0.mk (Below.refl w.heap.size w)
 have H : (if a1 < 1 then (machine_Check.j0 k a1 a2 (l0_1.length : Int) true a0_0 l0_1 l0_2) else (if a1 > 16384 then (machine_Check.j0 k a1 a2 (l0_1.length : Int) true a0_0 l0_1 l0_2) else (if a2 < 0 then (machine_Check.j0 k a1 a2 (l0_1.length : Int) true a0_0 l0_1 l0_2) else (if (l0_1.length : Int) < 1 then (machine_Check.j0 k a1 a2 (l0_1.length : Int) true a0_0 l0_1 l0_2) else (if (l0_1.length : Int) > 16384 then (machine_Check.j0 k a1 a2 (l0_1.length : Int) true a0_0 l0_1 l0_2) else (if (l0_2.length : Int) = (l0_1.length : Int) then (if (wrap64 ((l0_1.length : Int) * a1)) > 4194304 then (machine_Check.j0 k a1 a2 (l0_1.length : Int) true a0_0 l0_1 l0_2) else (if a0_0 < 0 then (machine_Check.j0 k a1 a2 (l0_1.length : Int) true a0_0 l0_1 l0_2) else (machine_Check.j0 k a1 a2 (l0_1.length : Int) (decide (a0_0 ≥ (l0_1.length : Int))) a0_0 l0_1 l0_2))) else (machine_Check.j0 k a1 a2 (l0_1.length : Int) true a0_0 l0_1 l0_2))))))) = some r := h
 clear h
 have HC4 := Aside0.mk H
 clear H
 go_enter Tryd.func91, Tryd.ntmps91
 go_upto_region 2 with (first | ((with_reducible refine gate_dst (N := 3) rfl ?_); (try (refine gate_guard (by rfl) ?_; dsimp only)); refine box_event ?hg (N := 3) ?hd (cs := #[.int .i64 a0_0, .slice A0_1 l0_1.length c0_1, .slice A0_2 l0_2.length c0_2]) (t := 24) ?hr ?_; (case hd => rfl); (case hg => rfl); (case hr => first | (go_simp; done) | (go_simp; rfl)); intro gb534 hg w5 hbox hb; have n0_ := Aside0.mk (below_step (by repeat (first | (with_reducible first | exact HB.out | apply below_alloc | apply pw_below_drewN | apply below_drew1) | exact HB.out)) hb); have n1_ := Aside0.mk (hbox); have n2_ := Aside0.mk ((by rw [hg]; exact (below_size (by repeat (first | (with_reducible first | exact HB.out | apply below_alloc | apply pw_below_drewN | apply below_drew1) | exact HB.out))) : w.heap.size ≤ gb534)); have n3_ := Aside0.mk ((by rw [hg]; exact (below_size (by repeat (first | (with_reducible first | exact HB.out | apply below_alloc | apply pw_below_drewN | apply below_drew1) | exact HB.out))) : w.heap.size ≤ gb534)); clear HB; have HB := n0_; have BK534 := n1_; have GW534 := n2_; have GE534 := n3_; clear n0_ n1_ n2_ n3_; clear hb hbox hg; have hcz6_0 : w5.cell? ⟨gb534, 0, none⟩ = some (.int .i64 a0_0) := (blk_cell BK534.out 0).trans rfl; have hcz6_1 : w5.cell? ⟨gb534, 1, none⟩ = some (.slice A0_1 l0_1.length c0_1) := (blk_cell BK534.out 1).trans rfl; have hcz6_2 : w5.cell? ⟨gb534, 2, none⟩ = some (.slice A0_2 l0_2.length c0_2) := (blk_cell BK534.out 2).trans rfl; have hfz6_0 := blk_frozen BK534.out 0; have hfz6_1 := blk_frozen BK534.out 1; have hfz6_2 := blk_frozen BK534.out 2))
 (try simp only [Act.put, List.setIfInBounds_toArray, List.set_cons_zero, List.set_cons_succ])
 go_cut [59] (fun v59 wc => ∃ (kq : Nat) (x59_3 : Bool), v59 = .bool x59_3 ∧ Aside0 (machine_Check.j0 kq a1 a2 (l0_1.length : Int) x59_3 a0_0 l0_1 l0_2 = some r) ∧ Aside0 (kq ≤ k) ∧ Aside0 (wc.heap[gb534]? = some (.cells #[.int .i64 a0_0, (.slice A0_1 l0_1.length c0_1), (.slice A0_2 l0_2.length c0_2)] 24 (0, 0))) ∧ Aside0 (Below w.heap.size w wc))
 case first =>
  have H := HC4.out
  clear HC4
  by_cases c7 : a1 < 1
  ·rw [if_pos c7] at H
   have c7b0 : decide (a1 < 1) = true := decide_eq_true c7
   clear c7
   (first | rw [c7b0] | (simp only [i64_w, i32_w]; rw [c7b0]) | skip)
   have H' := Aside0.mk H
   clear H
   go_wp2
   go_meet
   case rel => exact ⟨_, (true), (by first | rfl | (simp; done) | (simp [*]; done)), H', ⟨by first | omega | exact Nat.le_refl _⟩, ⟨by (with_reducible repeat (first | refine blk_drewN ?_ _ | refine blk_drew ?_ | refine blk_alloc ?_ _)); exact BK534.out⟩, ⟨by repeat (first | (with_reducible first | exact HB.out | apply below_alloc | apply pw_below_drewN | apply below_drew1 | refine below_set ?_ GE534.out) | exact HB.out)⟩⟩
  ·rw [if_neg c7] at H
   have c7b0 : decide (a1 < 1) = false := decide_eq_false c7
   clear c7
   (first | rw [c7b0] | (simp only [i64_w, i32_w]; rw [c7b0]) | skip)
   by_cases c8 : a1 > 16384
   ·rw [if_pos c8] at H
    have c8b0 : decide (16384 < a1) = true := decide_eq_true c8
    clear c8
    have H' := Aside0.mk H
    clear H
    go_wp2
    go_meet
    case rel => exact ⟨_, (true), (by first | rfl | (simp; done) | (simp [*]; done)), H', ⟨by first | omega | exact Nat.le_refl _⟩, ⟨by (with_reducible repeat (first | refine blk_drewN ?_ _ | refine blk_drew ?_ | refine blk_alloc ?_ _)); exact BK534.out⟩, ⟨by repeat (first | (with_reducible first | exact HB.out | apply below_alloc | apply pw_below_drewN | apply below_drew1 | refine below_set ?_ GE534.out) | exact HB.out)⟩⟩
   ·rw [if_neg c8] at H
    have c8b0 : decide (16384 < a1) = false := decide_eq_false c8
    clear c8
    by_cases c9 : a2 < 0
    ·rw [if_pos c9] at H
     have c9b0 : decide (a2 < 0) = true := decide_eq_true c9
     clear c9
     have H' := Aside0.mk H
     clear H
     go_wp2
     go_meet
     case rel => exact ⟨_, (true), (by first | rfl | (simp; done) | (simp [*]; done)), H', ⟨by first | omega | exact Nat.le_refl _⟩, ⟨by (with_reducible repeat (first | refine blk_drewN ?_ _ | refine blk_drew ?_ | refine blk_alloc ?_ _)); exact BK534.out⟩, ⟨by repeat (first | (with_reducible first | exact HB.out | apply below_alloc | apply pw_below_drewN | apply below_drew1 | refine below_set ?_ GE534.out) | exact HB.out)⟩⟩
    ·rw [if_neg c9] at H
     have c9b0 : decide (a2 < 0) = false := decide_eq_false c9
     clear c9
     by_cases c10 : (l0_1.length : Int) < 1
     ·rw [if_pos c10] at H
      have c10b0 : decide ((l0_1.length : Int) < 1) = true := decide_eq_true c10
      have c10b1 : decide (l0_1.length < 1) = true := decide_eq_true (by omega)
      clear c10
      have H' := Aside0.mk H
      clear H
      go_wp2
      go_meet
      case rel => exact ⟨_, (true), (by first | rfl | (simp; done) | (simp [*]; done)), H', ⟨by first | omega | exact Nat.le_refl _⟩, ⟨by (with_reducible repeat (first | refine blk_drewN ?_ _ | refine blk_drew ?_ | refine blk_alloc ?_ _)); exact BK534.out⟩, ⟨by repeat (first | (with_reducible first | exact HB.out | apply below_alloc | apply pw_below_drewN | apply below_drew1 | refine below_set ?_ GE534.out) | exact HB.out)⟩⟩
     ·rw [if_neg c10] at H
      have c10b0 : decide ((l0_1.length : Int) < 1) = false := decide_eq_false c10
      have c10b1 : decide (l0_1.length < 1) = false := decide_eq_false (by omega)
      clear c10
      by_cases c11 : (l0_1.length : Int) > 16384
      ·rw [if_pos c11] at H
       have c11b0 : decide (16384 < (l0_1.length : Int)) = true := decide_eq_true c11
       have c11b1 : decide (16384 < l0_1.length) = true := decide_eq_true (by omega)
       clear c11
       have H' := Aside0.mk H
       clear H
       go_wp2
       go_meet
       case rel => exact ⟨_, (true), (by first | rfl | (simp; done) | (simp [*]; done)), H', ⟨by first | omega | exact Nat.le_refl _⟩, ⟨by (with_reducible repeat (first | refine blk_drewN ?_ _ | refine blk_drew ?_ | refine blk_alloc ?_ _)); exact BK534.out⟩, ⟨by repeat (first | (with_reducible first | exact HB.out | apply below_alloc | apply pw_below_drewN | apply below_drew1 | refine below_set ?_ GE534.out) | exact HB.out)⟩⟩
      ·rw [if_neg c11] at H
       have c11b0 : decide (16384 < (l0_1.length : Int)) = false := decide_eq_false c11
       have c11b1 : decide (16384 < l0_1.length) = false := decide_eq_false (by omega)
       clear c11
       by_cases c12 : (l0_2.length : Int) = (l0_1.length : Int)
       ·rw [if_pos c12] at H
        have c12b0 : ((l0_2.length : Int) == (l0_1.length : Int)) = true := beq_iff_eq.mpr c12
        have c12b1 : ((l0_2.length : Int) != (l0_1.length : Int)) = false := bne_eq_false_iff_eq.mpr c12
        have c12b2 : (l0_2.length == l0_1.length) = true := by first | simpa using c12 | (simp at c12 ⊢; omega)
        clear c12
        by_cases c13 : (wrap64 ((l0_1.length : Int) * a1)) > 4194304
        ·rw [if_pos c13] at H
         have c13b0 : decide (4194304 < (wrap64 ((l0_1.length : Int) * a1))) = true := decide_eq_true c13
         clear c13
         have H' := Aside0.mk H
         clear H
         have hcz14_0 : w5.cell? ⟨gb534, 0, none⟩ = some (.int .i64 a0_0) := (blk_cell BK534.out 0).trans rfl
         have hcz14_1 : w5.cell? ⟨gb534, 1, none⟩ = some (.slice A0_1 l0_1.length c0_1) := (blk_cell BK534.out 1).trans rfl
         have hcz14_2 : w5.cell? ⟨gb534, 2, none⟩ = some (.slice A0_2 l0_2.length c0_2) := (blk_cell BK534.out 2).trans rfl
         have hfz14_0 := blk_frozen BK534.out 0
         have hfz14_1 := blk_frozen BK534.out 1
         have hfz14_2 := blk_frozen BK534.out 2
         go_wp2
         go_meet
         case rel => exact ⟨_, (true), (by first | rfl | (simp; done) | (simp [*]; done)), H', ⟨by first | omega | exact Nat.le_refl _⟩, ⟨by (with_reducible repeat (first | refine blk_drewN ?_ _ | refine blk_drew ?_ | refine blk_alloc ?_ _)); exact BK534.out⟩, ⟨by repeat (first | (with_reducible first | exact HB.out | apply below_alloc | apply pw_below_drewN | apply below_drew1 | refine below_set ?_ GE534.out) | exact HB.out)⟩⟩
        ·rw [if_neg c13] at H
         have c13b0 : decide (4194304 < (wrap64 ((l0_1.length : Int) * a1))) = false := decide_eq_false c13
         clear c13
         by_cases c15 : a0_0 < 0
         ·rw [if_pos c15] at H
          have c15b0 : decide (a0_0 < 0) = true := decide_eq_true c15
          clear c15
          have H' := Aside0.mk H
          clear H
          have hcz16_0 : w5.cell? ⟨gb534, 0, none⟩ = some (.int .i64 a0_0) := (blk_cell BK534.out 0).trans rfl
          have hcz16_1 : w5.cell? ⟨gb534, 1, none⟩ = some (.slice A0_1 l0_1.length c0_1) := (blk_cell BK534.out 1).trans rfl
          have hcz16_2 : w5.cell? ⟨gb534, 2, none⟩ = some (.slice A0_2 l0_2.length c0_2) := (blk_cell BK534.out 2).trans rfl
          have hfz16_0 := blk_frozen BK534.out 0
          have hfz16_1 := blk_frozen BK534.out 1
          have hfz16_2 := blk_frozen BK534.out 2
          go_wp2
          go_meet
          case rel => exact ⟨_, (true), (by first | rfl | (simp; done) | (simp [*]; done)), H', ⟨by first | omega | exact Nat.le_refl _⟩, ⟨by (with_reducible repeat (first | refine blk_drewN ?_ _ | refine blk_drew ?_ | refine blk_alloc ?_ _)); exact BK534.out⟩, ⟨by repeat (first | (with_reducible first | exact HB.out | apply below_alloc | apply pw_below_drewN | apply below_drew1 | refine below_set ?_ GE534.out) | exact HB.out)⟩⟩
         ·rw [if_neg c15] at H
          have c15b0 : decide (a0_0 < 0) = false := decide_eq_false c15
          clear c15
          have H' := Aside0.mk H
          clear H
          have hcz17_0 : w5.cell? ⟨gb534, 0, none⟩ = some (.int .i64 a0_0) := (blk_cell BK534.out 0).trans rfl
          have hcz17_1 : w5.cell? ⟨gb534, 1, none⟩ = some (.slice A0_1 l0_1.length c0_1) := (blk_cell BK534.out 1).trans rfl
          have hcz17_2 : w5.cell? ⟨gb534, 2, none⟩ = some (.slice A0_2 l0_2.length c0_2) := (blk_cell BK534.out 2).trans rfl
          have hfz17_0 := blk_frozen BK534.out 0
          have hfz17_1 := blk_frozen BK534.out 1
          have hfz17_2 := blk_frozen BK534.out 2
          go_wp2
          go_meet
          case rel => exact ⟨_, (decide (a0_0 ≥ (l0_1.length : Int))), (by first | rfl | (simp; done) | (simp [*]; done)), H', ⟨by first | omega | exact Nat.le_refl _⟩, ⟨by (with_reducible repeat (first | refine blk_drewN ?_ _ | refine blk_drew ?_ | refine blk_alloc ?_ _)); exact BK534.out⟩, ⟨by repeat (first | (with_reducible first | exact HB.out | apply below_alloc | apply pw_below_drewN | apply below_drew1 | refine below_set ?_ GE534.out) | exact HB.out)⟩⟩
       ·rw [if_neg c12] at H
        have c12b0 : ((l0_2.length : Int) == (l0_1.length : Int)) = false := beq_eq_false_iff_ne.mpr c12
        have c12b1 : ((l0_2.length : Int) != (l0_1.length : Int)) = true := bne_iff_ne.mpr c12
        have c12b2 : (l0_2.length == l0_1.length) = false := by first | simpa using c12 | (simp at c12 ⊢; omega)
        have H' := Aside0.mk H
        clear H
        have hcz18_0 : w5.cell? ⟨gb534, 0, none⟩ = some (.int .i64 a0_0) := (blk_cell BK534.out 0).trans rfl
        have hcz18_1 : w5.cell? ⟨gb534, 1, none⟩ = some (.slice A0_1 l0_1.length c0_1) := (blk_cell BK534.out 1).trans rfl
        have hcz18_2 : w5.cell? ⟨gb534, 2, none⟩ = some (.slice A0_2 l0_2.length c0_2) := (blk_cell BK534.out 2).trans rfl
        have hfz18_0 := blk_frozen BK534.out 0
        have hfz18_1 := blk_frozen BK534.out 1
        have hfz18_2 := blk_frozen BK534.out 2
        go_wp2
        go_meet
        case rel => exact ⟨_, (true), (by first | rfl | (simp; done) | (simp [*]; done)), H', ⟨by first | omega | exact Nat.le_refl _⟩, ⟨by (with_reducible repeat (first | refine blk_drewN ?_ _ | refine blk_drew ?_ | refine blk_alloc ?_ _)); exact BK534.out⟩, ⟨by repeat (first | (with_reducible first | exact HB.out | apply below_alloc | apply pw_below_drewN | apply below_drew1 | refine below_set ?_ GE534.out) | exact HB.out)⟩⟩
 case rest =>
  clear HC4
  try clear c1
  try clear p2
  try clear p6
  try clear c7
  try clear c7b0
  try clear c8
  try clear c8b0
  try clear c9
  try clear c9b0
  try clear c10
  try clear c10b0
  try clear c10b1
  try clear c11
  try clear c11b0
  try clear c11b1
  try clear c12
  try clear c12b0
  try clear c12b1
  try clear c12b2
  try clear c13
  try clear c13b0
  try clear c15
  try clear c15b0
  try clear hcz14_0
  try clear hcz14_1
  try clear hcz14_2
  try clear hcz16_0
  try clear hcz16_1
  try clear hcz16_2
  try clear hcz17_0
  try clear hcz17_1
  try clear hcz17_2
  try clear hcz18_0
  try clear hcz18_1
  try clear hcz18_2
  try clear hcz6_0
  try clear hcz6_1
  try clear hcz6_2
  try clear hfz14_0
  try clear hfz14_1
  try clear hfz14_2
  try clear hfz16_0
  try clear hfz16_1
  try clear hfz16_2
  try clear hfz17_0
  try clear hfz17_1
  try clear hfz17_2
  try clear hfz18_0
  try clear hfz18_1
  try clear hfz18_2
  try clear hfz6_0
  try clear hfz6_1
  try clear hfz6_2
  obtain ⟨kq, x59_3, rfl, HA, HJ3, BK534, HB⟩ := hcut
  cases kq with
  | zero => exact absurd HA.out (by simp [machine_Check.j0])
  | succ kj3 =>
   have H := HA.out
   clear HA
   simp only [machine_Check.j0] at H
   by_cases c19 : x59_3 = true
   ·subst c19
    have H1 : (some 1) = some r := by rw [if_pos rfl] at H; exact H
    clear H
    have H := H1
    clear H1
    obtain rfl := Option.some.inj H
    have hAq := HAll.out _ HB.out
    go_wp2
    go_ret
    exact ⟨by first | rfl | (simp [errW_none, errW_some] <;> rfl) | (simp [*, errW_none, errW_some] <;> rfl), by repeat (first | (with_reducible first | exact HB.out | apply below_alloc | apply pw_below_drewN | apply below_drew1 | refine below_set ?_ GE534.out) | exact HB.out)⟩
   ·replace c19 := Bool.eq_false_iff.mpr c19
    subst c19
    have H1 : (machine_Check.l0 kj3 a1 a2 (l0_1.length : Int) l0_1 (l0_1.length : Int) 0 a0_0 l0_1 l0_2) = some r := by rw [if_neg (show ¬ (false = true) by decide)] at H; exact H
    clear H
    have H := H1
    clear H1
    have H' := Aside0.mk H
    clear H
    have hcz20_0 : wc.cell? ⟨gb534, 0, none⟩ = some (.int .i64 a0_0) := (blk_cell BK534.out 0).trans rfl
    have hcz20_1 : wc.cell? ⟨gb534, 1, none⟩ = some (.slice A0_1 l0_1.length c0_1) := (blk_cell BK534.out 1).trans rfl
    have hcz20_2 : wc.cell? ⟨gb534, 2, none⟩ = some (.slice A0_2 l0_2.length c0_2) := (blk_cell BK534.out 2).trans rfl
    have hfz20_0 := blk_frozen BK534.out 0
    have hfz20_1 := blk_frozen BK534.out 1
    have hfz20_2 := blk_frozen BK534.out 2
    go_wp2
    go_loopg [64] kj3 (fun kq v64 w' => ∃ (x64_2 : Int), v64 = .int .i64 x64_2 ∧ Aside0 (machine_Check.l0 kq a1 a2 (l0_1.length : Int) l0_1 (l0_1.length : Int) x64_2 a0_0 l0_1 l0_2 = some r) ∧ Aside0 (kq ≤ kj3) ∧ Aside0 (w'.heap[gb534]? = some (.cells #[.int .i64 a0_0, (.slice A0_1 l0_1.length c0_1), (.slice A0_2 l0_2.length c0_2)] 24 (0, 0))) ∧ Aside0 (Below w.heap.size w w'))
    case atStart => exact ⟨(0), (by first | rfl | (simp; done) | (simp [*]; done)), H', ⟨Nat.le_refl _⟩, ⟨by (with_reducible repeat (first | refine blk_drewN ?_ _ | refine blk_drew ?_ | refine blk_alloc ?_ _)); exact BK534.out⟩, ⟨by repeat (first | (with_reducible first | exact HB.out | apply below_alloc | apply pw_below_drewN | apply below_drew1 | refine below_set ?_ GE534.out) | exact HB.out)⟩⟩
    case round =>
     clear H'
     try clear c1
     try clear p2
     try clear p6
     try clear c7
     try clear c7b0
     try clear c8
     try clear c8b0
     try clear c9
     try clear c9b0
     try clear c10
     try clear c10b0
     try clear c10b1
     try clear c11
     try clear c11b0
     try clear c11b1
     try clear c12
     try clear c12b0
     try clear c12b1
     try clear c12b2
     try clear c13
     try clear c13b0
     try clear c15
     try clear c15b0
     try clear c19
     try clear hcz14_0
     try clear hcz14_1
     try clear hcz14_2
     try clear hcz16_0
     try clear hcz16_1
     try clear hcz16_2
     try clear hcz17_0
     try clear hcz17_1
     try clear hcz17_2
     try clear hcz18_0
     try clear hcz18_1
     try clear hcz18_2
     try clear hcz20_0
     try clear hcz20_1
     try clear hcz20_2
     try clear hcz6_0
     try clear hcz6_1
     try clear hcz6_2
     try clear hfz14_0
     try clear hfz14_1
     try clear hfz14_2
     try clear hfz16_0
     try clear hfz16_1
     try clear hfz16_2
     try clear hfz17_0
     try clear hfz17_1
     try clear hfz17_2
     try clear hfz18_0
     try clear hfz18_1
     try clear hfz18_2
     try clear hfz20_0
     try clear hfz20_1
     try clear hfz20_2
     try clear hfz6_0
     try clear hfz6_1
     try clear hfz6_2
     try clear p2
     try clear p6
     obtain ⟨x64_2, rfl, HA, HK2, BK534, HB⟩ := hrel
     cases gk with
     | zero => exact absurd HA.out (by simp [machine_Check.l0])
     | succ k2 =>
      have H := HA.out
      clear HA
      simp only [machine_Check.l0] at H
      by_cases c21 : x64_2 < (l0_1.length : Int)
      ·rw [if_pos c21] at H
       have c21b0 : decide (x64_2 < (l0_1.length : Int)) = true := decide_eq_true c21
       clear c21
       by_cases c22 : 0 ≤ x64_2
       ·rw [if_pos c22] at H
        have c22b0 : decide (0 ≤ x64_2) = true := decide_eq_true c22
        clear c22
        by_cases c23 : x64_2 < (l0_1.length : Int)
        ·rw [if_pos c23] at H
         have c23b0 : decide (x64_2 < (l0_1.length : Int)) = true := decide_eq_true c23
         clear c23
         by_cases c24 : ((rd_L1 l0_1 x64_2).length : Int) = a1
         ·rw [if_pos c24] at H
          have c24b0 : (((rd_L1 l0_1 x64_2).length : Int) == a1) = true := beq_iff_eq.mpr c24
          have c24b1 : (((rd_L1 l0_1 x64_2).length : Int) != a1) = false := bne_eq_false_iff_eq.mpr c24
          clear c24
          have H' := Aside0.mk H
          clear H
          have p535 : 0 ≤ (x64_2 : Int) := of_decide_eq_true (by first | (with_reducible assumption) | assumption)
          have q535 : x64_2 < (l0_1.length : Int) := of_decide_eq_true (by first | (with_reducible assumption) | assumption)
          obtain ⟨ad535, A535_0, c535_0, e535, hx535_0, hl535_0, hi535_0⟩ := at_L1 HR0_1.out x64_2 p535 q535
          cases e535
          replace hx535_0 := (HB.out.cell (World.block_lt_of_cell? w _ hx535_0)).trans hx535_0
          have HR535_0 := Aside0.mk hi535_0
          have HC535_0 := Aside0.mk hl535_0
          clear hi535_0 hl535_0
          replace p535 := eq_true p535
          replace q535 := eq_true q535
          go_wp2
          go_loopg [76] k2 (fun kq v76 w' => ∃ (x76_3 : Int), v76 = .int .i64 x76_3 ∧ Aside0 (machine_Check.l1 kq a1 a2 (l0_1.length : Int) x64_2 l0_1 (l0_1.length : Int) x64_2 (rd_L1 l0_1 x64_2) ((rd_L1 l0_1 x64_2).length : Int) x76_3 a0_0 l0_1 l0_2 = some r) ∧ Aside0 (kq ≤ k2) ∧ Aside0 (w'.heap[gb534]? = some (.cells #[.int .i64 a0_0, (.slice (some ad535) l0_1.length c0_1), (.slice A0_2 l0_2.length c0_2)] 24 (0, 0))) ∧ Aside0 (Below w.heap.size w w'))
          case atStart => exact ⟨(0), (by first | rfl | (simp; done) | (simp [*]; done)), H', ⟨Nat.le_refl _⟩, ⟨by (with_reducible repeat (first | refine blk_drewN ?_ _ | refine blk_drew ?_ | refine blk_alloc ?_ _)); exact BK534.out⟩, ⟨by repeat (first | (with_reducible first | exact HB.out | apply below_alloc | apply pw_below_drewN | apply below_drew1 | refine below_set ?_ GE534.out) | exact HB.out)⟩⟩
          case round =>
           clear H'
           try clear c1
           try clear c2
           try clear p2
           try clear c5
           try clear p5
           try clear q5
           try clear hx5
           try clear p6
           try clear c7
           try clear c7b0
           try clear c8
           try clear c8b0
           try clear c9
           try clear c9b0
           try clear c10
           try clear c10b0
           try clear c10b1
           try clear c11
           try clear c11b0
           try clear c11b1
           try clear c12
           try clear c12b0
           try clear c12b1
           try clear c12b2
           try clear c13
           try clear c13b0
           try clear c15
           try clear c15b0
           try clear c19
           try clear c21
           try clear c21b0
           try clear c22
           try clear c22b0
           try clear c23
           try clear c23b0
           try clear c24
           try clear c24b0
           try clear c24b1
           try clear hcz14_0
           try clear hcz14_1
           try clear hcz14_2
           try clear hcz16_0
           try clear hcz16_1
           try clear hcz16_2
           try clear hcz17_0
           try clear hcz17_1
           try clear hcz17_2
           try clear hcz18_0
           try clear hcz18_1
           try clear hcz18_2
           try clear hcz20_0
           try clear hcz20_1
           try clear hcz20_2
           try clear hcz6_0
           try clear hcz6_1
           try clear hcz6_2
           try clear hfz14_0
           try clear hfz14_1
           try clear hfz14_2
           try clear hfz16_0
           try clear hfz16_1
           try clear hfz16_2
           try clear hfz17_0
           try clear hfz17_1
           try clear hfz17_2
           try clear hfz18_0
           try clear hfz18_1
           try clear hfz18_2
           try clear hfz20_0
           try clear hfz20_1
           try clear hfz20_2
           try clear hfz6_0
           try clear hfz6_1
           try clear hfz6_2
           try clear hx535_0
           try clear p2
           try clear p535
           try clear p6
           try clear q535
           obtain ⟨x76_3, rfl, HA, HK3, BK534, HB⟩ := hrel
           cases gk with
           | zero => exact absurd HA.out (by simp [machine_Check.l1])
           | succ k3 =>
            have H := HA.out
            clear HA
            simp only [machine_Check.l1] at H
            by_cases c25 : x76_3 < ((rd_L1 l0_1 x64_2).length : Int)
            ·rw [if_pos c25] at H
             have c25b0 : decide (x76_3 < ((rd_L1 l0_1 x64_2).length : Int)) = true := decide_eq_true c25
             clear c25
             by_cases c26 : 0 ≤ x76_3
             ·rw [if_pos c26] at H
              have c26b0 : decide (0 ≤ x76_3) = true := decide_eq_true c26
              clear c26
              by_cases c27 : x76_3 < ((rd_L1 l0_1 x64_2).length : Int)
              ·rw [if_pos c27] at H
               have c27b0 : decide (x76_3 < ((rd_L1 l0_1 x64_2).length : Int)) = true := decide_eq_true c27
               clear c27
               by_cases c28 : (rd (rd_L1 l0_1 x64_2) x76_3) < 0
               ·rw [if_pos c28] at H
                have c28b0 : decide ((rd (rd_L1 l0_1 x64_2) x76_3) < 0) = true := decide_eq_true c28
                clear c28
                obtain rfl := Option.some.inj H
                have hAq := HAll.out _ HB.out
                have p536 : 0 ≤ (x76_3 : Int) := of_decide_eq_true (by first | (with_reducible assumption) | assumption)
                have q536 : x76_3 < ((rd_L1 l0_1 x64_2).length : Int) := of_decide_eq_true (by first | (with_reducible assumption) | assumption)
                obtain ⟨ad536, e536, hx536_0⟩ := Kd.at_int HR535_0.out x76_3 p536 q536
                cases e536
                replace hx536_0 := (HB.out.cell (World.block_lt_of_cell? w _ hx536_0)).trans hx536_0
                replace p536 := eq_true p536
                replace q536 := eq_true q536
                go_wp2
                go_ret
                exact ⟨by first | rfl | (simp [errW_none, errW_some] <;> rfl) | (simp [*, errW_none, errW_some] <;> rfl), by repeat (first | (with_reducible first | exact HB.out | apply below_alloc | apply pw_below_drewN | apply below_drew1 | refine below_set ?_ GE534.out) | exact HB.out)⟩
               ·rw [if_neg c28] at H
                have c28b0 : decide ((rd (rd_L1 l0_1 x64_2) x76_3) < 0) = false := decide_eq_false c28
                clear c28
                by_cases c29 : (rd (rd_L1 l0_1 x64_2) x76_3) ≥ (l0_1.length : Int)
                ·rw [if_pos c29] at H
                 have c29b0 : decide ((l0_1.length : Int) ≤ (rd (rd_L1 l0_1 x64_2) x76_3)) = true := decide_eq_true c29
                 clear c29
                 obtain rfl := Option.some.inj H
                 have hAq := HAll.out _ HB.out
                 have p536 : 0 ≤ (x76_3 : Int) := of_decide_eq_true (by first | (with_reducible assumption) | assumption)
                 have q536 : x76_3 < ((rd_L1 l0_1 x64_2).length : Int) := of_decide_eq_true (by first | (with_reducible assumption) | assumption)
                 obtain ⟨ad536, e536, hx536_0⟩ := Kd.at_int HR535_0.out x76_3 p536 q536
                 cases e536
                 replace hx536_0 := (HB.out.cell (World.block_lt_of_cell? w _ hx536_0)).trans hx536_0
                 replace p536 := eq_true p536
                 replace q536 := eq_true q536
                 go_wp2
                 go_ret
                 exact ⟨by first | rfl | (simp [errW_none, errW_some] <;> rfl) | (simp [*, errW_none, errW_some] <;> rfl), by repeat (first | (with_reducible first | exact HB.out | apply below_alloc | apply pw_below_drewN | apply below_drew1 | refine below_set ?_ GE534.out) | exact HB.out)⟩
                ·rw [if_neg c29] at H
                 have c29b0 : decide ((l0_1.length : Int) ≤ (rd (rd_L1 l0_1 x64_2) x76_3)) = false := decide_eq_false c29
                 clear c29
                 have H' := Aside0.mk H
                 clear H
                 have p536 : 0 ≤ (x76_3 : Int) := of_decide_eq_true (by first | (with_reducible assumption) | assumption)
                 have q536 : x76_3 < ((rd_L1 l0_1 x64_2).length : Int) := of_decide_eq_true (by first | (with_reducible assumption) | assumption)
                 obtain ⟨ad536, e536, hx536_0⟩ := Kd.at_int HR535_0.out x76_3 p536 q536
                 cases e536
                 replace hx536_0 := (HB.out.cell (World.block_lt_of_cell? w _ hx536_0)).trans hx536_0
                 replace p536 := eq_true p536
                 replace q536 := eq_true q536
                 go_wp2
                 go_roundg k3
                 case measure => have := HJ3.out; have := HK2.out; have := HK3.out; omega
                 case rel => exact ⟨(wrap64 (x76_3 + 1)), (by first | rfl | (simp; done) | (simp [*]; done)), H', ⟨by have := HJ3.out; have := HK2.out; have := HK3.out; omega⟩, ⟨by (with_reducible repeat (first | refine blk_drewN ?_ _ | refine blk_drew ?_ | refine blk_alloc ?_ _)); exact BK534.out⟩, ⟨by repeat (first | (with_reducible first | exact HB.out | apply below_alloc | apply pw_below_drewN | apply below_drew1 | refine below_set ?_ GE534.out) | exact HB.out)⟩⟩
              ·rw [if_neg c27] at H
               exact absurd H (by simp)
             ·rw [if_neg c26] at H
              exact absurd H (by simp)
            ·rw [if_neg c25] at H
             have c25b0 : decide (x76_3 < ((rd_L1 l0_1 x64_2).length : Int)) = false := decide_eq_false c25
             clear c25
             by_cases c30 : 0 ≤ x64_2
             ·rw [if_pos c30] at H
              have c30b0 : decide (0 ≤ x64_2) = true := decide_eq_true c30
              clear c30
              by_cases c31 : x64_2 < (l0_2.length : Int)
              ·rw [if_pos c31] at H
               have c31b0 : decide (x64_2 < (l0_2.length : Int)) = true := decide_eq_true c31
               clear c31
               have H' := Aside0.mk H
               clear H
               have hcz32_0 : wr.cell? ⟨gb534, 0, none⟩ = some (.int .i64 a0_0) := (blk_cell BK534.out 0).trans rfl
               have hcz32_1 : wr.cell? ⟨gb534, 1, none⟩ = some (.slice (some ad535) l0_1.length c0_1) := (blk_cell BK534.out 1).trans rfl
               have hcz32_2 : wr.cell? ⟨gb534, 2, none⟩ = some (.slice A0_2 l0_2.length c0_2) := (blk_cell BK534.out 2).trans rfl
               have hfz32_0 := blk_frozen BK534.out 0
               have hfz32_1 := blk_frozen BK534.out 1
               have hfz32_2 := blk_frozen BK534.out 2
               have p537 : 0 ≤ (x64_2 : Int) := of_decide_eq_true (by first | (with_reducible assumption) | assumption)
               have q537 : x64_2 < (l0_2.length : Int) := of_decide_eq_true (by first | (with_reducible assumption) | assumption)
               obtain ⟨ad537, A537_0, c537_0, e537, hx537_0, hl537_0, hi537_0⟩ := at_L1 HR0_2.out x64_2 p537 q537
               cases e537
               replace hx537_0 := (HB.out.cell (World.block_lt_of_cell? w _ hx537_0)).trans hx537_0
               have HR537_0 := Aside0.mk hi537_0
               have HC537_0 := Aside0.mk hl537_0
               clear hi537_0 hl537_0
               replace p537 := eq_true p537
               replace q537 := eq_true q537
               go_wp2
               go_loopg [12, 95] k3 (fun kq v12 v95 w' => ∃ (x12_4 : Int) (x95_4 : Int), v12 = .int .i64 x12_4 ∧ v95 = .int .i64 x95_4 ∧ Aside0 (machine_Check.l2 kq a1 a2 (l0_1.length : Int) x12_4 l0_1 (l0_1.length : Int) x64_2 (rd_L1 l0_2 x64_2) ((rd_L1 l0_2 x64_2).length : Int) x95_4 a0_0 l0_1 l0_2 = some r) ∧ Aside0 (kq ≤ k3) ∧ Aside0 (w'.heap[gb534]? = some (.cells #[.int .i64 a0_0, (.slice (some ad535) l0_1.length c0_1), (.slice (some ad537) l0_2.length c0_2)] 24 (0, 0))) ∧ Aside0 (Below w.heap.size w w'))
               case atStart => exact ⟨((-1)), (0), (by first | rfl | (simp; done) | (simp [*]; done)), (by first | rfl | (simp; done) | (simp [*]; done)), H', ⟨Nat.le_refl _⟩, ⟨by (with_reducible repeat (first | refine blk_drewN ?_ _ | refine blk_drew ?_ | refine blk_alloc ?_ _)); exact BK534.out⟩, ⟨by repeat (first | (with_reducible first | exact HB.out | apply below_alloc | apply pw_below_drewN | apply below_drew1 | refine below_set ?_ GE534.out) | exact HB.out)⟩⟩
               case round =>
                clear H'
                try clear c1
                try clear c2
                try clear p2
                try clear c3
                try clear c5
                try clear p5
                try clear q5
                try clear hx5
                try clear p6
                try clear c7
                try clear c7b0
                try clear c8
                try clear c8b0
                try clear c9
                try clear c9b0
                try clear c10
                try clear c10b0
                try clear c10b1
                try clear c11
                try clear c11b0
                try clear c11b1
                try clear c12
                try clear c12b0
                try clear c12b1
                try clear c12b2
                try clear c13
                try clear c13b0
                try clear c15
                try clear c15b0
                try clear c19
                try clear c21
                try clear c21b0
                try clear c22
                try clear c22b0
                try clear c23
                try clear c23b0
                try clear c24
                try clear c24b0
                try clear c24b1
                try clear c25
                try clear c25b0
                try clear c26
                try clear c26b0
                try clear c27
                try clear c27b0
                try clear c28
                try clear c28b0
                try clear c29
                try clear c29b0
                try clear c30
                try clear c30b0
                try clear c31
                try clear c31b0
                try clear hcz14_0
                try clear hcz14_1
                try clear hcz14_2
                try clear hcz16_0
                try clear hcz16_1
                try clear hcz16_2
                try clear hcz17_0
                try clear hcz17_1
                try clear hcz17_2
                try clear hcz18_0
                try clear hcz18_1
                try clear hcz18_2
                try clear hcz20_0
                try clear hcz20_1
                try clear hcz20_2
                try clear hcz32_0
                try clear hcz32_1
                try clear hcz32_2
                try clear hcz6_0
                try clear hcz6_1
                try clear hcz6_2
                try clear hfz14_0
                try clear hfz14_1
                try clear hfz14_2
                try clear hfz16_0
                try clear hfz16_1
                try clear hfz16_2
                try clear hfz17_0
                try clear hfz17_1
                try clear hfz17_2
                try clear hfz18_0
                try clear hfz18_1
                try clear hfz18_2
                try clear hfz20_0
                try clear hfz20_1
                try clear hfz20_2
                try clear hfz32_0
                try clear hfz32_1
                try clear hfz32_2
                try clear hfz6_0
                try clear hfz6_1
                try clear hfz6_2
                try clear hx535_0
                try clear hx536_0
                try clear hx537_0
                try clear p2
                try clear p5
                try clear p535
                try clear p536
                try clear p537
                try clear p6
                try clear q5
                try clear q535
                try clear q536
                try clear q537
                obtain ⟨x12_4, x95_4, rfl, rfl, HA, HK4, BK534, HB⟩ := hrel
                cases gk with
                | zero => exact absurd HA.out (by simp [machine_Check.l2])
                | succ k4 =>
                 have H := HA.out
                 clear HA
                 simp only [machine_Check.l2] at H
                 by_cases c33 : x95_4 < ((rd_L1 l0_2 x64_2).length : Int)
                 ·rw [if_pos c33] at H
                  have c33b0 : decide (x95_4 < ((rd_L1 l0_2 x64_2).length : Int)) = true := decide_eq_true c33
                  clear c33
                  by_cases c34 : 0 ≤ x95_4
                  ·rw [if_pos c34] at H
                   have c34b0 : decide (0 ≤ x95_4) = true := decide_eq_true c34
                   clear c34
                   by_cases c35 : x95_4 < ((rd_L1 l0_2 x64_2).length : Int)
                   ·rw [if_pos c35] at H
                    have c35b0 : decide (x95_4 < ((rd_L1 l0_2 x64_2).length : Int)) = true := decide_eq_true c35
                    clear c35
                    by_cases c36 : (rd (rd_L1 l0_2 x64_2) x95_4) ≤ x12_4
                    ·rw [if_pos c36] at H
                     have c36b0 : decide ((rd (rd_L1 l0_2 x64_2) x95_4) ≤ x12_4) = true := decide_eq_true c36
                     clear c36
                     obtain rfl := Option.some.inj H
                     have hAq := HAll.out _ HB.out
                     have p538 : 0 ≤ (x95_4 : Int) := of_decide_eq_true (by first | (with_reducible assumption) | assumption)
                     have q538 : x95_4 < ((rd_L1 l0_2 x64_2).length : Int) := of_decide_eq_true (by first | (with_reducible assumption) | assumption)
                     obtain ⟨ad538, e538, hx538_0⟩ := Kd.at_int HR537_0.out x95_4 p538 q538
                     cases e538
                     replace hx538_0 := (HB.out.cell (World.block_lt_of_cell? w _ hx538_0)).trans hx538_0
                     replace p538 := eq_true p538
                     replace q538 := eq_true q538
                     go_wp2
                     go_ret
                     exact ⟨by first | rfl | (simp [errW_none, errW_some] <;> rfl) | (simp [*, errW_none, errW_some] <;> rfl), by repeat (first | (with_reducible first | exact HB.out | apply below_alloc | apply pw_below_drewN | apply below_drew1 | refine below_set ?_ GE534.out) | exact HB.out)⟩
                    ·rw [if_neg c36] at H
                     have c36b0 : decide ((rd (rd_L1 l0_2 x64_2) x95_4) ≤ x12_4) = false := decide_eq_false c36
                     clear c36
                     by_cases c37 : (rd (rd_L1 l0_2 x64_2) x95_4) ≥ a2
                     ·rw [if_pos c37] at H
                      have c37b0 : decide (a2 ≤ (rd (rd_L1 l0_2 x64_2) x95_4)) = true := decide_eq_true c37
                      clear c37
                      obtain rfl := Option.some.inj H
                      have hAq := HAll.out _ HB.out
                      have p538 : 0 ≤ (x95_4 : Int) := of_decide_eq_true (by first | (with_reducible assumption) | assumption)
                      have q538 : x95_4 < ((rd_L1 l0_2 x64_2).length : Int) := of_decide_eq_true (by first | (with_reducible assumption) | assumption)
                      obtain ⟨ad538, e538, hx538_0⟩ := Kd.at_int HR537_0.out x95_4 p538 q538
                      cases e538
                      replace hx538_0 := (HB.out.cell (World.block_lt_of_cell? w _ hx538_0)).trans hx538_0
                      replace p538 := eq_true p538
                      replace q538 := eq_true q538
                      go_wp2
                      go_ret
                      exact ⟨by first | rfl | (simp [errW_none, errW_some] <;> rfl) | (simp [*, errW_none, errW_some] <;> rfl), by repeat (first | (with_reducible first | exact HB.out | apply below_alloc | apply pw_below_drewN | apply below_drew1 | refine below_set ?_ GE534.out) | exact HB.out)⟩
                     ·rw [if_neg c37] at H
                      have c37b0 : decide (a2 ≤ (rd (rd_L1 l0_2 x64_2) x95_4)) = false := decide_eq_false c37
                      clear c37
                      have H' := Aside0.mk H
                      clear H
                      have p538 : 0 ≤ (x95_4 : Int) := of_decide_eq_true (by first | (with_reducible assumption) | assumption)
                      have q538 : x95_4 < ((rd_L1 l0_2 x64_2).length : Int) := of_decide_eq_true (by first | (with_reducible assumption) | assumption)
                      obtain ⟨ad538, e538, hx538_0⟩ := Kd.at_int HR537_0.out x95_4 p538 q538
                      cases e538
                      replace hx538_0 := (HB.out.cell (World.block_lt_of_cell? w _ hx538_0)).trans hx538_0
                      replace p538 := eq_true p538
                      replace q538 := eq_true q538
                      go_wp2
                      go_roundg k4
                      case measure => have := HJ3.out; have := HK2.out; have := HK3.out; have := HK4.out; omega
                      case rel => exact ⟨(rd (rd_L1 l0_2 x64_2) x95_4), (wrap64 (x95_4 + 1)), (by first | rfl | (simp; done) | (simp [*]; done)), (by first | rfl | (simp; done) | (simp [*]; done)), H', ⟨by have := HJ3.out; have := HK2.out; have := HK3.out; have := HK4.out; omega⟩, ⟨by (with_reducible repeat (first | refine blk_drewN ?_ _ | refine blk_drew ?_ | refine blk_alloc ?_ _)); exact BK534.out⟩, ⟨by repeat (first | (with_reducible first | exact HB.out | apply below_alloc | apply pw_below_drewN | apply below_drew1 | refine below_set ?_ GE534.out) | exact HB.out)⟩⟩
                   ·rw [if_neg c35] at H
                    exact absurd H (by simp)
                  ·rw [if_neg c34] at H
                   exact absurd H (by simp)
                 ·rw [if_neg c33] at H
                  have c33b0 : decide (x95_4 < ((rd_L1 l0_2 x64_2).length : Int)) = false := decide_eq_false c33
                  clear c33
                  have H' := Aside0.mk H
                  clear H
                  go_wp2
                  go_roundg k4
                  case measure => have := HJ3.out; have := HK2.out; have := HK3.out; have := HK4.out; omega
                  case rel => exact ⟨(wrap64 (x64_2 + 1)), (by first | rfl | (simp; done) | (simp [*]; done)), H', ⟨by have := HJ3.out; have := HK2.out; have := HK3.out; have := HK4.out; omega⟩, ⟨by (with_reducible repeat (first | refine blk_drewN ?_ _ | refine blk_drew ?_ | refine blk_alloc ?_ _)); exact BK534.out⟩, ⟨by repeat (first | (with_reducible first | exact HB.out | apply below_alloc | apply pw_below_drewN | apply below_drew1 | refine below_set ?_ GE534.out) | exact HB.out)⟩⟩
              ·rw [if_neg c31] at H
               exact absurd H (by simp)
             ·rw [if_neg c30] at H
              exact absurd H (by simp)
         ·rw [if_neg c24] at H
          have c24b0 : (((rd_L1 l0_1 x64_2).length : Int) == a1) = false := beq_eq_false_iff_ne.mpr c24
          have c24b1 : (((rd_L1 l0_1 x64_2).length : Int) != a1) = true := bne_iff_ne.mpr c24
          obtain rfl := Option.some.inj H
          have hAq := HAll.out _ HB.out
          have p535 : 0 ≤ (x64_2 : Int) := of_decide_eq_true (by first | (with_reducible assumption) | assumption)
          have q535 : x64_2 < (l0_1.length : Int) := of_decide_eq_true (by first | (with_reducible assumption) | assumption)
          obtain ⟨ad535, A535_0, c535_0, e535, hx535_0, hl535_0, hi535_0⟩ := at_L1 HR0_1.out x64_2 p535 q535
          cases e535
          replace hx535_0 := (HB.out.cell (World.block_lt_of_cell? w _ hx535_0)).trans hx535_0
          have HR535_0 := Aside0.mk hi535_0
          have HC535_0 := Aside0.mk hl535_0
          clear hi535_0 hl535_0
          replace p535 := eq_true p535
          replace q535 := eq_true q535
          go_wp2
          go_ret
          exact ⟨by first | rfl | (simp [errW_none, errW_some] <;> rfl) | (simp [*, errW_none, errW_some] <;> rfl), by repeat (first | (with_reducible first | exact HB.out | apply below_alloc | apply pw_below_drewN | apply below_drew1 | refine below_set ?_ GE534.out) | exact HB.out)⟩
        ·rw [if_neg c23] at H
         exact absurd H (by simp)
       ·rw [if_neg c22] at H
        exact absurd H (by simp)
      ·rw [if_neg c21] at H
       have c21b0 : decide (x64_2 < (l0_1.length : Int)) = false := decide_eq_false c21
       clear c21
       obtain rfl := Option.some.inj H
       have hAq := HAll.out _ HB.out
       go_wp2
       go_ret
       exact ⟨by first | rfl | (simp [errW_none, errW_some] <;> rfl) | (simp [*, errW_none, errW_some] <;> rfl), by repeat (first | (with_reducible first | exact HB.out | apply below_alloc | apply pw_below_drewN | apply below_drew1 | refine below_set ?_ GE534.out) | exact HB.out)⟩
end Go.Proofs.YtfonajakaimnoaaDoor.Lib

namespace Go.Proofs.YtfonajakaimnoaaDoor.Lib
open Go.RowKit Go.Proofs.YtfonajakaimnoaaDoorW.PrintWords Go.Proofs.YtfonajakaimnoaaDoorW.PrintLast Go.Proofs.YtfonajakaimnoaaDoorW.PrintMore
attribute [local go_sem] max2_int min2_int max_two min_two max_three min_three max_four min_four   -- for this text's walks alone
set_option linter.unusedVariables false
set_option linter.unusedSimpArgs false
def pair_Check.f (k : Nat) (a0_0 : Int) (l0_1 : List (List Int)) (l0_2 : List (List Int)) (a0_3 : Int) (l0_4 : List (List Int)) (l0_5 : List (List Int)) (l0_6 : List Bool) (a0_7 : Bool) (a1 : Int) : Option Int := (machine_Check.f k a0_0 l0_1 l0_2 a1 (l0_6.length : Int)).bind fun t540 => (if t540 = 0 then ((machine_Check.f k a0_3 l0_4 l0_5 a1 (l0_6.length : Int)).bind fun t542 => (some t542)) else (some t540))
set_option maxHeartbeats 8000000 in
set_option maxRecDepth 100000 in
theorem pair_Check.calls (k : Nat) (a0_0 : Int) (A0_1 : Option Addr) (c0_1 : Nat) (l0_1 : List (List Int)) (A0_2 : Option Addr) (c0_2 : Nat) (l0_2 : List (List Int)) (a0_3 : Int) (A0_4 : Option Addr) (c0_4 : Nat) (l0_4 : List (List Int)) (A0_5 : Option Addr) (c0_5 : Nat) (l0_5 : List (List Int)) (A0_6 : Option Addr) (c0_6 : Nat) (l0_6 : List Bool) (a0_7 : Bool) (a1 : Int) (r : Int) (tE : TypeId) (pE : Value) (w : World) (hA : w.cell? ⟨0, 0, none⟩ = some (.iface tE pE)) (hr0_1 : Kd.C (Kd.slice 3 (Kd.int .i64)) w A0_1 l0_1.length l0_1) (hc0_1 : l0_1.length ≤ c0_1) (hr0_2 : Kd.C (Kd.slice 3 (Kd.int .i64)) w A0_2 l0_2.length l0_2) (hc0_2 : l0_2.length ≤ c0_2) (hr0_4 : Kd.C (Kd.slice 3 (Kd.int .i64)) w A0_4 l0_4.length l0_4) (hc0_4 : l0_4.length ≤ c0_4) (hr0_5 : Kd.C (Kd.slice 3 (Kd.int .i64)) w A0_5 l0_5.length l0_5) (hc0_5 : l0_5.length ≤ c0_5) (hr0_6 : Kd.C Kd.bool w A0_6 l0_6.length l0_6) (hc0_6 : l0_6.length ≤ c0_6) (h : pair_Check.f k a0_0 l0_1 l0_2 a0_3 l0_4 l0_5 l0_6 a0_7 a1 = some r) :
  Calls Tryd.prog 38 #[.agg #[.int .i64 a0_0, .slice A0_1 l0_1.length c0_1, .slice A0_2 l0_2.length c0_2, .int .i64 a0_3, .slice A0_4 l0_4.length c0_4, .slice A0_5 l0_5.length c0_5, .slice A0_6 l0_6.length c0_6, .bool a0_7], .int .i64 a1] w fun e w' => e = .returned (errI (.iface tE pE) r) ∧ Below w.heap.size w w' := by
 have HAll : Aside0 (∀ W, Below w.heap.size w W → W.cell? ⟨0, 0, none⟩ = some (.iface tE pE)) := ⟨fun W hb => pw_cell_below hb hA⟩
 clear hA
 have hneq := fun W => run_neq_held_nil (P := Tryd.prog) (w := W) 30 tE pE (by kernel_rfl)
 have hu60 := Tryd.underlying60
 have hu24 := Tryd.underlying24
 have hu30 := Tryd.underlying30
 have HR0_1 := Aside0.mk hr0_1
 have HC0_1 := Aside0.mk hc0_1
 clear hr0_1 hc0_1
 have HR0_2 := Aside0.mk hr0_2
 have HC0_2 := Aside0.mk hc0_2
 clear hr0_2 hc0_2
 have HR0_4 := Aside0.mk hr0_4
 have HC0_4 := Aside0.mk hc0_4
 clear hr0_4 hc0_4
 have HR0_5 := Aside0.mk hr0_5
 have HC0_5 := Aside0.mk hc0_5
 clear hr0_5 hc0_5
 have HR0_6 := Aside0.mk hr0_6
 have HC0_6 := Aside0.mk hc0_6
 clear hr0_6 hc0_6
 have HB := Aside0.mk (Below.refl w.heap.size w)
 have H : ((machine_Check.f k a0_0 l0_1 l0_2 a1 (l0_6.length : Int)).bind fun t540 => (if t540 = 0 then ((machine_Check.f k a0_3 l0_4 l0_5 a1 (l0_6.length : Int)).bind fun t542 => (some t542)) else (some t540))) = some r := h
 clear h
 replace H := Option.bind_eq_some_iff.mp H
 obtain ⟨t540, A30, H⟩ := H
 replace H : (if t540 = 0 then ((machine_Check.f k a0_3 l0_4 l0_5 a1 (l0_6.length : Int)).bind fun t542 => (some t542)) else (some t540)) = some r := H
 have A3 := Aside0.mk A30
 clear A30
 by_cases c540 : t540 = 0
 ·have H1 : ((machine_Check.f k a0_3 l0_4 l0_5 a1 (l0_6.length : Int)).bind fun t542 => (some t542)) = some r := by rw [if_pos c540] at H; exact H
  clear H
  have H := H1
  clear H1
  replace H := Option.bind_eq_some_iff.mp H
  obtain ⟨t542, A40, H⟩ := H
  replace H : (some t542) = some r := H
  have A4 := Aside0.mk A40
  clear A40
  obtain rfl := Option.some.inj H
  go_enter Tryd.func38, Tryd.ntmps38
  go_wp2_with (first | ((with_reducible refine gate_dst (N := 2) rfl ?_); refine box_event ?hg (N := 2) ?hd (cs := #[.int .i64 a0_0, .slice A0_1 l0_1.length c0_1, .slice A0_2 l0_2.length c0_2, .int .i64 a0_3, .slice A0_4 l0_4.length c0_4, .slice A0_5 l0_5.length c0_5, .slice A0_6 l0_6.length c0_6, .bool a0_7]) (t := 60) ?hr ?_; (case hd => rfl); (case hg => rfl); (case hr => first | (go_simp; done) | (go_simp; rfl)); intro gb539 hg w5 hbox hb; have n0_ := Aside0.mk (below_step (by repeat (first | (with_reducible first | exact HB.out | apply below_alloc | apply pw_below_drewN | apply below_drew1) | exact HB.out)) hb); have n1_ := Aside0.mk (hbox); have n2_ := Aside0.mk ((by rw [hg]; exact (below_size (by repeat (first | (with_reducible first | exact HB.out | apply below_alloc | apply pw_below_drewN | apply below_drew1) | exact HB.out))) : w.heap.size ≤ gb539)); have n3_ := Aside0.mk ((by rw [hg]; exact (below_size (by repeat (first | (with_reducible first | exact HB.out | apply below_alloc | apply pw_below_drewN | apply below_drew1) | exact HB.out))) : w.heap.size ≤ gb539)); clear HB; have HB := n0_; have BK539 := n1_; have GW539 := n2_; have GE539 := n3_; clear n0_ n1_ n2_ n3_; clear hb hbox hg; have hcz6_0 : w5.cell? ⟨gb539, 0, none⟩ = some (.int .i64 a0_0) := (blk_cell BK539.out 0).trans rfl; have hcz6_1 : w5.cell? ⟨gb539, 1, none⟩ = some (.slice A0_1 l0_1.length c0_1) := (blk_cell BK539.out 1).trans rfl; have hcz6_2 : w5.cell? ⟨gb539, 2, none⟩ = some (.slice A0_2 l0_2.length c0_2) := (blk_cell BK539.out 2).trans rfl; have hcz6_3 : w5.cell? ⟨gb539, 3, none⟩ = some (.int .i64 a0_3) := (blk_cell BK539.out 3).trans rfl; have hcz6_4 : w5.cell? ⟨gb539, 4, none⟩ = some (.slice A0_4 l0_4.length c0_4) := (blk_cell BK539.out 4).trans rfl; have hcz6_5 : w5.cell? ⟨gb539, 5, none⟩ = some (.slice A0_5 l0_5.length c0_5) := (blk_cell BK539.out 5).trans rfl; have hcz6_6 : w5.cell? ⟨gb539, 6, none⟩ = some (.slice A0_6 l0_6.length c0_6) := (blk_cell BK539.out 6).trans rfl; have hcz6_7 : w5.cell? ⟨gb539, 7, none⟩ = some (.bool a0_7) := (blk_cell BK539.out 7).trans rfl; have hfz6_0 := blk_frozen BK539.out 0; have hfz6_1 := blk_frozen BK539.out 1; have hfz6_2 := blk_frozen BK539.out 2; have hfz6_3 := blk_frozen BK539.out 3; have hfz6_4 := blk_frozen BK539.out 4; have hfz6_5 := blk_frozen BK539.out 5; have hfz6_6 := blk_frozen BK539.out 6; have hfz6_7 := blk_frozen BK539.out 7) | ((with_reducible refine gate_callee (f := 91) rfl ?_); refine goesL_ (some 12) rfl rfl Tryd.func91 (by kernel_rfl) rfl #[.agg #[.int .i64 a0_0, .slice A0_1 l0_1.length c0_1, .slice A0_2 l0_2.length c0_2], .int .i64 a1, .int .i64 (l0_6.length : Int)] rfl (by (try simp only [List.map_toArray, List.map_cons, List.map_nil]); first | done | rfl | (simp only [List.length_drop, List.length_take]; rfl)) ?_; (with_reducible refine (machine_Check.calls k a0_0 _ _ l0_1 _ _ l0_2 a1 (l0_6.length : Int) t540 (.iface tE pE) _ (HAll.out _ (by repeat (first | (with_reducible first | exact HB.out | apply below_alloc | apply pw_below_drewN | apply below_drew1) | exact HB.out))) ?side1 ?side2 ?side3 ?side4 A3.out).mono ?_); (case side1 => repeat (first | exact (Kd.C_below HR0_1.out HB.out) | (with_reducible refine Kd.C_alloc ?_ _) | (with_reducible refine Kd.C_drewN ?_ _) | (with_reducible refine Kd.C_drew ?_))); (case side2 => exact HC0_1.out); (case side3 => repeat (first | exact (Kd.C_below HR0_2.out HB.out) | (with_reducible refine Kd.C_alloc ?_ _) | (with_reducible refine Kd.C_drewN ?_ _) | (with_reducible refine Kd.C_drew ?_))); (case side4 => exact HC0_2.out); rintro e w7 ⟨he, hb⟩; rw [show errI (.iface tE pE) t540 = .nilIface from if_pos c540] at he; subst he; refine ⟨_, rfl, ?_⟩; have n0_ := Aside0.mk (blk_below (g := gb539) (o := .cells #[.int .i64 a0_0, .slice A0_1 l0_1.length c0_1, .slice A0_2 l0_2.length c0_2, .int .i64 a0_3, .slice A0_4 l0_4.length c0_4, .slice A0_5 l0_5.length c0_5, .slice A0_6 l0_6.length c0_6, .bool a0_7] 60 (0, 0)) (by (with_reducible repeat (first | refine blk_drewN ?_ _ | refine blk_drew ?_ | refine blk_alloc ?_ _)); exact BK539.out) hb); have n1_ := Aside0.mk (below_step (by repeat (first | (with_reducible first | exact HB.out | apply below_alloc | apply pw_below_drewN | apply below_drew1 | refine below_set ?_ GE539.out) | exact HB.out)) hb); clear BK539; clear HB; have BK539 := n0_; have HB := n1_; clear n0_ n1_; (try clear hb); (try clear hb2); (try clear hk); (try clear hi); have hcz8_0 : w7.cell? ⟨gb539, 0, none⟩ = some (.int .i64 a0_0) := (blk_cell BK539.out 0).trans rfl; have hcz8_1 : w7.cell? ⟨gb539, 1, none⟩ = some (.slice A0_1 l0_1.length c0_1) := (blk_cell BK539.out 1).trans rfl; have hcz8_2 : w7.cell? ⟨gb539, 2, none⟩ = some (.slice A0_2 l0_2.length c0_2) := (blk_cell BK539.out 2).trans rfl; have hcz8_3 : w7.cell? ⟨gb539, 3, none⟩ = some (.int .i64 a0_3) := (blk_cell BK539.out 3).trans rfl; have hcz8_4 : w7.cell? ⟨gb539, 4, none⟩ = some (.slice A0_4 l0_4.length c0_4) := (blk_cell BK539.out 4).trans rfl; have hcz8_5 : w7.cell? ⟨gb539, 5, none⟩ = some (.slice A0_5 l0_5.length c0_5) := (blk_cell BK539.out 5).trans rfl; have hcz8_6 : w7.cell? ⟨gb539, 6, none⟩ = some (.slice A0_6 l0_6.length c0_6) := (blk_cell BK539.out 6).trans rfl; have hcz8_7 : w7.cell? ⟨gb539, 7, none⟩ = some (.bool a0_7) := (blk_cell BK539.out 7).trans rfl; have hfz8_0 := blk_frozen BK539.out 0; have hfz8_1 := blk_frozen BK539.out 1; have hfz8_2 := blk_frozen BK539.out 2; have hfz8_3 := blk_frozen BK539.out 3; have hfz8_4 := blk_frozen BK539.out 4; have hfz8_5 := blk_frozen BK539.out 5; have hfz8_6 := blk_frozen BK539.out 6; have hfz8_7 := blk_frozen BK539.out 7) | ((with_reducible refine gate_callee (f := 91) rfl ?_); refine goesL_ (some 22) rfl rfl Tryd.func91 (by kernel_rfl) rfl #[.agg #[.int .i64 a0_3, .slice A0_4 l0_4.length c0_4, .slice A0_5 l0_5.length c0_5], .int .i64 a1, .int .i64 (l0_6.length : Int)] rfl (by (try simp only [List.map_toArray, List.map_cons, List.map_nil]); first | done | rfl | (simp only [List.length_drop, List.length_take]; rfl)) ?_; (with_reducible refine (machine_Check.calls k a0_3 _ _ l0_4 _ _ l0_5 a1 (l0_6.length : Int) t542 (.iface tE pE) _ (HAll.out _ (by repeat (first | (with_reducible first | exact HB.out | apply below_alloc | apply pw_below_drewN | apply below_drew1) | exact HB.out))) ?side1 ?side2 ?side3 ?side4 A4.out).mono ?_); (case side1 => repeat (first | exact (Kd.C_below HR0_4.out HB.out) | (with_reducible refine Kd.C_alloc ?_ _) | (with_reducible refine Kd.C_drewN ?_ _) | (with_reducible refine Kd.C_drew ?_))); (case side2 => exact HC0_4.out); (case side3 => repeat (first | exact (Kd.C_below HR0_5.out HB.out) | (with_reducible refine Kd.C_alloc ?_ _) | (with_reducible refine Kd.C_drewN ?_ _) | (with_reducible refine Kd.C_drew ?_))); (case side4 => exact HC0_5.out); rintro e w9 ⟨rfl, hb⟩; refine ⟨_, rfl, ?_⟩; have n0_ := Aside0.mk (blk_below (g := gb539) (o := .cells #[.int .i64 a0_0, .slice A0_1 l0_1.length c0_1, .slice A0_2 l0_2.length c0_2, .int .i64 a0_3, .slice A0_4 l0_4.length c0_4, .slice A0_5 l0_5.length c0_5, .slice A0_6 l0_6.length c0_6, .bool a0_7] 60 (0, 0)) (by (with_reducible repeat (first | refine blk_drewN ?_ _ | refine blk_drew ?_ | refine blk_alloc ?_ _)); exact BK539.out) hb); have n1_ := Aside0.mk (below_step (by repeat (first | (with_reducible first | exact HB.out | apply below_alloc | apply pw_below_drewN | apply below_drew1 | refine below_set ?_ GE539.out) | exact HB.out)) hb); clear BK539; clear HB; have BK539 := n0_; have HB := n1_; clear n0_ n1_; (try clear hb); (try clear hb2); (try clear hk); (try clear hi)))
  go_ret
  exact ⟨by first | rfl | (unfold errI; rw [if_neg c540]; done) | (unfold errI; rw [if_neg c540]; rfl) | (simp [errW_none, errW_some] <;> rfl) | (simp [*, errW_none, errW_some] <;> rfl), by repeat (first | (with_reducible first | exact HB.out | apply below_alloc | apply pw_below_drewN | apply below_drew1 | refine below_set ?_ GE539.out) | exact HB.out)⟩
 ·have H1 : (some t540) = some r := by rw [if_neg c540] at H; exact H
  clear H
  have H := H1
  clear H1
  obtain rfl := Option.some.inj H
  go_enter Tryd.func38, Tryd.ntmps38
  go_wp2_with (first | ((with_reducible refine gate_dst (N := 2) rfl ?_); refine box_event ?hg (N := 2) ?hd (cs := #[.int .i64 a0_0, .slice A0_1 l0_1.length c0_1, .slice A0_2 l0_2.length c0_2, .int .i64 a0_3, .slice A0_4 l0_4.length c0_4, .slice A0_5 l0_5.length c0_5, .slice A0_6 l0_6.length c0_6, .bool a0_7]) (t := 60) ?hr ?_; (case hd => rfl); (case hg => rfl); (case hr => first | (go_simp; done) | (go_simp; rfl)); intro gb539 hg w10 hbox hb; have n0_ := Aside0.mk (below_step (by repeat (first | (with_reducible first | exact HB.out | apply below_alloc | apply pw_below_drewN | apply below_drew1) | exact HB.out)) hb); have n1_ := Aside0.mk (hbox); have n2_ := Aside0.mk ((by rw [hg]; exact (below_size (by repeat (first | (with_reducible first | exact HB.out | apply below_alloc | apply pw_below_drewN | apply below_drew1) | exact HB.out))) : w.heap.size ≤ gb539)); have n3_ := Aside0.mk ((by rw [hg]; exact (below_size (by repeat (first | (with_reducible first | exact HB.out | apply below_alloc | apply pw_below_drewN | apply below_drew1) | exact HB.out))) : w.heap.size ≤ gb539)); clear HB; have HB := n0_; have BK539 := n1_; have GW539 := n2_; have GE539 := n3_; clear n0_ n1_ n2_ n3_; clear hb hbox hg; have hcz11_0 : w10.cell? ⟨gb539, 0, none⟩ = some (.int .i64 a0_0) := (blk_cell BK539.out 0).trans rfl; have hcz11_1 : w10.cell? ⟨gb539, 1, none⟩ = some (.slice A0_1 l0_1.length c0_1) := (blk_cell BK539.out 1).trans rfl; have hcz11_2 : w10.cell? ⟨gb539, 2, none⟩ = some (.slice A0_2 l0_2.length c0_2) := (blk_cell BK539.out 2).trans rfl; have hcz11_3 : w10.cell? ⟨gb539, 3, none⟩ = some (.int .i64 a0_3) := (blk_cell BK539.out 3).trans rfl; have hcz11_4 : w10.cell? ⟨gb539, 4, none⟩ = some (.slice A0_4 l0_4.length c0_4) := (blk_cell BK539.out 4).trans rfl; have hcz11_5 : w10.cell? ⟨gb539, 5, none⟩ = some (.slice A0_5 l0_5.length c0_5) := (blk_cell BK539.out 5).trans rfl; have hcz11_6 : w10.cell? ⟨gb539, 6, none⟩ = some (.slice A0_6 l0_6.length c0_6) := (blk_cell BK539.out 6).trans rfl; have hcz11_7 : w10.cell? ⟨gb539, 7, none⟩ = some (.bool a0_7) := (blk_cell BK539.out 7).trans rfl; have hfz11_0 := blk_frozen BK539.out 0; have hfz11_1 := blk_frozen BK539.out 1; have hfz11_2 := blk_frozen BK539.out 2; have hfz11_3 := blk_frozen BK539.out 3; have hfz11_4 := blk_frozen BK539.out 4; have hfz11_5 := blk_frozen BK539.out 5; have hfz11_6 := blk_frozen BK539.out 6; have hfz11_7 := blk_frozen BK539.out 7) | ((with_reducible refine gate_callee (f := 91) rfl ?_); refine goesL_ (some 12) rfl rfl Tryd.func91 (by kernel_rfl) rfl #[.agg #[.int .i64 a0_0, .slice A0_1 l0_1.length c0_1, .slice A0_2 l0_2.length c0_2], .int .i64 a1, .int .i64 (l0_6.length : Int)] rfl (by (try simp only [List.map_toArray, List.map_cons, List.map_nil]); first | done | rfl | (simp only [List.length_drop, List.length_take]; rfl)) ?_; (with_reducible refine (machine_Check.calls k a0_0 _ _ l0_1 _ _ l0_2 a1 (l0_6.length : Int) t540 (.iface tE pE) _ (HAll.out _ (by repeat (first | (with_reducible first | exact HB.out | apply below_alloc | apply pw_below_drewN | apply below_drew1) | exact HB.out))) ?side1 ?side2 ?side3 ?side4 A3.out).mono ?_); (case side1 => repeat (first | exact (Kd.C_below HR0_1.out HB.out) | (with_reducible refine Kd.C_alloc ?_ _) | (with_reducible refine Kd.C_drewN ?_ _) | (with_reducible refine Kd.C_drew ?_))); (case side2 => exact HC0_1.out); (case side3 => repeat (first | exact (Kd.C_below HR0_2.out HB.out) | (with_reducible refine Kd.C_alloc ?_ _) | (with_reducible refine Kd.C_drewN ?_ _) | (with_reducible refine Kd.C_drew ?_))); (case side4 => exact HC0_2.out); rintro e w12 ⟨he, hb⟩; rw [show errI (.iface tE pE) t540 = .iface tE pE from if_neg c540] at he; subst he; refine ⟨_, rfl, ?_⟩; have n0_ := Aside0.mk (blk_below (g := gb539) (o := .cells #[.int .i64 a0_0, .slice A0_1 l0_1.length c0_1, .slice A0_2 l0_2.length c0_2, .int .i64 a0_3, .slice A0_4 l0_4.length c0_4, .slice A0_5 l0_5.length c0_5, .slice A0_6 l0_6.length c0_6, .bool a0_7] 60 (0, 0)) (by (with_reducible repeat (first | refine blk_drewN ?_ _ | refine blk_drew ?_ | refine blk_alloc ?_ _)); exact BK539.out) hb); have n1_ := Aside0.mk (below_step (by repeat (first | (with_reducible first | exact HB.out | apply below_alloc | apply pw_below_drewN | apply below_drew1 | refine below_set ?_ GE539.out) | exact HB.out)) hb); clear BK539; clear HB; have BK539 := n0_; have HB := n1_; clear n0_ n1_; (try clear hb); (try clear hb2); (try clear hk); (try clear hi)))
  go_ret
  exact ⟨by first | rfl | (unfold errI; rw [if_neg c540]; done) | (unfold errI; rw [if_neg c540]; rfl) | (simp [errW_none, errW_some] <;> rfl) | (simp [*, errW_none, errW_some] <;> rfl), by repeat (first | (with_reducible first | exact HB.out | apply below_alloc | apply pw_below_drewN | apply below_drew1 | refine below_set ?_ GE539.out) | exact HB.out)⟩
end Go.Proofs.YtfonajakaimnoaaDoor.Lib

namespace Go.Proofs.YtfonajakaimnoaaDoor.Lent
open Go.RowKit Go.Proofs.YtfonajakaimnoaaDoorW.PrintWords Go.Proofs.YtfonajakaimnoaaDoorW.PrintLast Go.Proofs.YtfonajakaimnoaaDoorW.PrintMore
section
variable {α : Type} {d : Kd α} {w : World} {A : Option Addr}
theorem C_pre {xs ys : List α} (h : d.C w A (xs ++ ys).length (xs ++ ys)) : d.C w A xs.length xs := by
 obtain ⟨_, h2, h3⟩ := h
 rw [List.length_append] at h2 h3
 refine ⟨rfl, by omega, fun hn => ?_⟩
 obtain ⟨ad, e, hc⟩ := h3 (by omega)
 exact ⟨ad, e, fun j p hj => hc j p (by rw [List.getElem?_append_left (List.getElem?_eq_some_iff.1 hj).1]; exact hj)⟩
theorem C_nth {xs : List α} {n : Nat} (h : d.C w A n xs) (j : Nat) (p : α) (hj : xs[j]? = some p) : ∃ ad c, A = some ad ∧ d.K w p c ∧ ∀ i u, c[i]? = some u → w.cell? (ad.add (j * d.sz + i)) = some u := by
 obtain ⟨h1, _, h3⟩ := h
 have := (List.getElem?_eq_some_iff.1 hj).1
 obtain ⟨ad, e, hc⟩ := h3 (by omega)
 obtain ⟨c, _, hK, hu⟩ := hc j p hj
 exact ⟨ad, c, e, hK, hu⟩
theorem C_bound {xs : List α} {n : Nat} (h : d.C w A n xs) : xs.length ≤ 9223372036854775807 := by
 obtain ⟨h1, h2, _⟩ := h
 omega
end
end Go.Proofs.YtfonajakaimnoaaDoor.Lent

namespace Go.Proofs.YtfonajakaimnoaaDoor.Fn
open Go.RowKit Go.Proofs.YtfonajakaimnoaaDoorW.PrintWords Go.Proofs.YtfonajakaimnoaaDoorW.PrintLast Go.Proofs.YtfonajakaimnoaaDoorW.PrintMore Go.Proofs.YtfonajakaimnoaaDoor.Lib Lent
def idx {α : Type} (p : α → Bool) : List α → Int
 | [] => -1
 | x :: r => if p x then 0 else (if idx p r < 0 then -1 else idx p r + 1)
theorem idx_any {α : Type} (p : α → Bool) (l : List α) : decide (idx p l ≥ 0) = l.any p := by
 induction l with
 | nil => rfl
 | cons x r ih =>
  simp only [idx, List.any_cons]
  by_cases h : p x = true
  ·simp [h]
  ·simp only [h, Bool.false_eq_true, if_false, Bool.false_or]
   rw [← ih]
   by_cases h2 : idx p r < 0
   ·simp [h2]
   ·simp only [h2, if_false]
    simp only [show idx p r + 1 ≥ 0 from by omega, show idx p r ≥ 0 from by omega]
theorem idx_hit {α : Type} (p : α → Bool) (l : List α) (k : Nat) (x : α) (hk : l[k]? = some x) (hx : p x = true) (h : ∀ (j : Nat) (y : α), j < k → l[j]? = some y → p y = false) : idx p l = k := by
 induction l generalizing k with
 | nil => simp at hk
 | cons y r ih =>
  cases k with
  | zero =>
   simp only [List.getElem?_cons_zero, Option.some.injEq] at hk
   subst hk
   simp [idx, hx]
  | succ k =>
   have h0 := h 0 y (by omega) rfl
   have := ih k (by simpa using hk) (fun j z hj hz => h (j + 1) z (by omega) (by simpa using hz))
   simp only [idx, h0, Bool.false_eq_true, if_false, this]
   rw [if_neg (by omega)]
   rfl
theorem idx_miss {α : Type} (p : α → Bool) (l : List α) (h : ∀ (j : Nat) (y : α), l[j]? = some y → p y = false) : idx p l = -1 := by
 induction l with
 | nil => rfl
 | cons y r ih =>
  have h0 := h 0 y rfl
  have := ih (fun j z hz => h (j + 1) z (by simpa using hz))
  simp only [idx, h0, Bool.false_eq_true, if_false, this]
  rfl
theorem int_at {w : World} {A : Option Addr} {n : Nat} {xs : List Int} (h : Kd.C (Kd.int .i64) w A n xs) (j : Nat) (x : Int) (hj : xs[j]? = some x) : ∃ ad, A = some ad ∧ w.cell? (ad.add j) = some (.int .i64 x) := by
 obtain ⟨ad, c, e, hK, hu⟩ := C_nth h j x hj
 obtain rfl : c = [.int .i64 x] := hK
 have := hu 0 _ rfl
 rw [show j * (Kd.int .i64).sz + 0 = j from Nat.mul_one _] at this
 exact ⟨ad, e, this⟩
theorem list_at {w : World} {A : Option Addr} {n : Nat} {xs : List (List Int)} (h : Kd.C (Kd.slice 3 (Kd.int .i64)) w A n xs) (j : Nat) (x : List Int) (hj : xs[j]? = some x) : ∃ ad A' c', A = some ad ∧ w.cell? (ad.add j) = some (.slice A' x.length c') ∧ x.length ≤ c' ∧ Kd.C (Kd.int .i64) w A' x.length x := by
 obtain ⟨ad, c, e, ⟨A', c', rfl, h1, h2⟩, hu⟩ := C_nth h j x hj
 have := hu 0 _ rfl
 rw [show j * (Kd.slice 3 (Kd.int .i64)).sz + 0 = j from Nat.mul_one _] at this
 exact ⟨ad, A', c', e, this, h1, h2⟩
set_option maxHeartbeats 1000000 in
theorem indexFunc_int (g : Nat) (lb : Array Value) (eg : ∀ args w, (callFunc g args).run Tryd.prog w = .ok (.enter g args) w) (p : Int → Bool) (A : Option Addr) (c : Nat) (l : List Int) (w : World)
  (hr : Kd.C (Kd.int .i64) w A l.length l) (hp : ∀ (W : World) (x : Int), Below w.heap.size w W → x ∈ l → Calls Tryd.prog g (#[.int .i64 x] ++ lb) W fun e w' => e = .returned (.bool (p x)) ∧ Below W.heap.size W w') :
  Calls Tryd.prog 112 #[.slice A l.length c, .func (.func g) #[] lb] w fun e w' => e = .returned (.int .i64 (idx p l)) ∧ Below w.heap.size w w' := by
 have hbig := C_bound hr
 have HR := Aside0.mk hr
 have HP := Aside0.mk hp
 clear hr hp
 go_enter Tryd.func112, Tryd.ntmps112
 go_wp2
 go_loopg [5, 8] l.length (fun gg _ s8 wr => ∃ kk : Nat, kk ≤ l.length ∧ l.length - kk ≤ gg ∧ s8 = .int .i64 kk ∧ Aside0 (Below w.heap.size w wr) ∧ Aside0 (∀ (j : Nat) (y : Int), j < kk → l[j]? = some y → p y = false))
 case atStart => exact ⟨0, Nat.zero_le _, by omega, rfl, ⟨Below.refl _ w⟩, ⟨fun j y hj => absurd hj (Nat.not_lt_zero _)⟩⟩
 case round =>
  obtain ⟨kk, hkk, hg, rfl, BW, AA⟩ := hrel
  by_cases hlt : kk < l.length
  ·have hltz : (kk : Int) < (l.length : Int) := by omega
   obtain ⟨ad, rfl, hcell⟩ := int_at (Kd.C_below HR.out BW.out) kk l[kk] (List.getElem?_eq_getElem hlt)
   have hcall := Aside0.mk (HP.out wr l[kk] BW.out (List.getElem_mem hlt))
   have hy : Aside0 (l[kk]? = some l[kk]) := ⟨List.getElem?_eq_getElem hlt⟩
   generalize l[kk] = y at hcell hcall hy
   cases hq : p y with
   | true =>
    have HQ := Aside0.mk hq
    rw [hq] at hcall
    clear hq
    go_wp2_with fail
    refine hcall.out.mono ?_
    rintro e w' ⟨rfl, hb'⟩
    go_wp2_with fail
    go_ret
    exact ⟨by rw [idx_hit p l kk y hy.out HQ.out AA.out]; rfl, below_step BW.out hb'⟩
   | false =>
    have HQ := Aside0.mk hq
    rw [hq] at hcall
    clear hq
    go_wp2_with fail
    refine hcall.out.mono ?_
    rintro e w' ⟨rfl, hb'⟩
    go_wp2_with fail
    go_roundg (l.length - (kk + 1))
    case measure => omega
    case rel =>
     refine ⟨kk + 1, by omega, by omega, by go_num, ⟨below_step BW.out hb'⟩, ⟨fun j z hj hz => ?_⟩⟩
     by_cases e : j = kk
     ·subst e
      rw [hy.out] at hz
      cases hz
      exact HQ.out
     ·exact AA.out j z (by omega) hz
  ·have hltz : ¬ (kk : Int) < (l.length : Int) := by omega
   have : kk = l.length := by omega
   subst this
   go_wp2
   go_ret
   exact ⟨by rw [idx_miss p l (fun j y hj => AA.out j y (List.getElem?_eq_some_iff.1 hj).1 hj)]; rfl, BW.out⟩
set_option maxHeartbeats 1000000 in
theorem containsFunc_int (g : Nat) (lb : Array Value) (eg : ∀ args w, (callFunc g args).run Tryd.prog w = .ok (.enter g args) w) (p : Int → Bool) (A : Option Addr) (c : Nat) (l : List Int) (w : World)
  (hr : Kd.C (Kd.int .i64) w A l.length l) (hp : ∀ (W : World) (x : Int), Below w.heap.size w W → x ∈ l → Calls Tryd.prog g (#[.int .i64 x] ++ lb) W fun e w' => e = .returned (.bool (p x)) ∧ Below W.heap.size W w') :
  Calls Tryd.prog 77 #[.slice A l.length c, .func (.func g) #[] lb] w fun e w' => e = .returned (.bool (l.any p)) ∧ Below w.heap.size w w' := by
 have HC := Aside0.mk (indexFunc_int g lb eg p A c l w hr hp)
 clear hr hp
 go_enter Tryd.func77, Tryd.ntmps77
 go_wp2_with fail
 refine HC.out.mono ?_
 rintro e w' ⟨rfl, hb'⟩
 go_wp2_with fail
 go_ret
 exact ⟨by rw [← idx_any]; rfl, hb'⟩
end Go.Proofs.YtfonajakaimnoaaDoor.Fn

namespace Go.Proofs.YtfonajakaimnoaaDoor.C11
open Go.RowKit Go.Proofs.YtfonajakaimnoaaDoorW.PrintWords Go.Proofs.YtfonajakaimnoaaDoorW.PrintLast Go.Proofs.YtfonajakaimnoaaDoorW.PrintMore Go.Proofs.YtfonajakaimnoaaDoor.Lib Lent Go.Proofs.YtfonajakaimnoaaDoor.Fn Go.Shelf
attribute [local go_sem] max2_int min2_int max_two min_two max_three min_three max_four min_four
abbrev LL := List (List Int)
abbrev kI : Kd Int := Kd.int .i64
abbrev kL : Kd (List Int) := Kd.slice 3 (Kd.int .i64)
end Go.Proofs.YtfonajakaimnoaaDoor.C11

namespace Go.Proofs.YtfonajakaimnoaaDoor.Fn
open Go.RowKit Go.Proofs.YtfonajakaimnoaaDoorW.PrintWords Go.Proofs.YtfonajakaimnoaaDoorW.PrintLast Go.Proofs.YtfonajakaimnoaaDoorW.PrintMore Go.Proofs.YtfonajakaimnoaaDoor.Lib Lent
attribute [local go_sem] max2_int min2_int max_two min_two max_three min_three max_four min_four
def isB (x : Int) (y : Int) : Bool := decide (x = y)
end Go.Proofs.YtfonajakaimnoaaDoor.Fn

namespace Go.Proofs.YtfonajakaimnoaaDoor.Fn
open Go.RowKit Go.Proofs.YtfonajakaimnoaaDoorW.PrintWords Go.Proofs.YtfonajakaimnoaaDoorW.PrintLast Go.Proofs.YtfonajakaimnoaaDoorW.PrintMore Go.Proofs.YtfonajakaimnoaaDoor.Lib Lent
attribute [local go_sem] max2_int min2_int max_two min_two max_three min_three max_four min_four
theorem infoInt : (Tryd.prog.info? 3).map (fun i => (i.zero, i.size, i.bytes)) = some (some (.int .i64 0), 1, 8) := by kernel_rfl
set_option maxHeartbeats 400000 in
theorem clone_calls (A : Option Addr) (c : Nat) (l : List Int) (w : World) (hr : Kd.C (Kd.int .i64) w A l.length l) (hl : l.length ≤ 17592186043904) :
  Calls Tryd.prog 82 #[.slice A l.length c] w fun e w' => ∃ v, e = .returned v ∧ Kd.R (Kd.int .i64) 3 w' w.heap.size (fun _ => True) v l ∧ Below w.heap.size w w' := by
 have hu := Tryd.underlying25
 have HR := Aside0.mk hr
 have HL := Aside0.mk hl
 clear hr hl
 cases A with
 | none =>
  have hn : Aside0 (l = []) := ⟨by
   obtain ⟨h1, h2, h3⟩ := HR.out
   cases l with
   | nil => rfl
   | cons x r => obtain ⟨ad, e, _⟩ := h3 (by simp); cases e⟩
  have he := fun (W : World) => _root_.Go.Lib.run_eql_slice_nil (P := Tryd.prog) W 25 3 none l.length c 0 0 Tryd.underlying25
  simp only [Option.isNone_none] at he
  go_enter Tryd.func82, Tryd.ntmps82
  go_wp2
  go_ret
  refine ⟨_, rfl, ?_, by repeat (first | exact Below.refl _ _ | apply pw_below_drewN | apply below_drew1 | apply below_alloc)⟩
  rw [hn.out]
  exact Kd.R_nil _ _ _ _ _
 | some a =>
  have he := fun (W : World) => _root_.Go.Lib.run_eql_slice_nil (P := Tryd.prog) W 25 3 (some a) l.length c 0 0 Tryd.underlying25
  simp only [Option.isNone_some] at he
  go_enter Tryd.func82, Tryd.ntmps82
  have HB := Aside0.mk (below_alloc (Below.refl w.heap.size w) (.cells #[] 3))
  have HO := Aside0.mk (show Kd.R (Kd.int .i64) 3 (w.alloc (.cells #[] 3)) w.heap.size (fun _ => True) (.slice (some ⟨w.heap.size, 0, none⟩) 0 0) ([] : List Int) from
   ⟨fun _ _ => trivial, [], ⟨rfl, .inr ⟨w.heap.size, 0, #[], rfl, Nat.le_refl _, heap_alloc_new _ _, Nat.le_refl _, by simp [maxLen], rfl, rfl⟩⟩, Reps.none _ _⟩)
  go_wp2_with ((with_reducible refine gate_builtin (b := .append) (xs := #[.tmp 5, .tmp 6]) rfl ?_); at_builtin; refine Kd.R_append_rows (Kd.int .i64) (w0 := w) w.heap.size rfl (.tmp 5) (.tmp 6) 25 3 (.int .i64 0) 8 rfl Tryd.underlying25 infoInt rfl (by decide) (by omega) (.slice (some ⟨w.heap.size, 0, none⟩) 0 0) ([] : List Int) l _ _ _ (fun _ => True) (fun _ => False) rfl rfl ?aO ?aR (fun _ _ h => h) (fun _ h => h.elim) ?aF ?aB ?aS ?aL ?_; (case aR => exact Kd.C_below HR.out HB.out); (case aB => exact HB.out); (case aF => exact (fun _ _ => trivial)); (case aO => exact HO.out); (case aS => exact HB.out.size); (case aL => have := HL.out; simp; omega); intro v w1 ho hb hg hat; have HO1 := Aside0.mk ho; have HB1 := Aside0.mk hb; clear ho hb hg hat)
  go_ret
  exact ⟨_, rfl, HO1.out, HB1.out⟩
end Go.Proofs.YtfonajakaimnoaaDoor.Fn

namespace Go.Proofs.YtfonajakaimnoaaDoor.C11
open Go.RowKit Go.Proofs.YtfonajakaimnoaaDoorW.PrintWords Go.Proofs.YtfonajakaimnoaaDoorW.PrintLast Go.Proofs.YtfonajakaimnoaaDoorW.PrintMore Go.Proofs.YtfonajakaimnoaaDoor.Lib Lent Go.Proofs.YtfonajakaimnoaaDoor.Fn Go.Shelf
attribute [local go_sem] max2_int min2_int max_two min_two max_three min_three max_four min_four
def risesB (n : Int) (last : Int) : List Int → Bool
 | [] => true
 | x :: r => !decide (x ≤ last) && (!decide (x ≥ n) && risesB n x r)
theorem wrap_succ {i : Int} {n : Nat} (h0 : 0 ≤ i) (h : i < (n : Int)) (hn : n ≤ 9223372036854775807) : wrap64 (i + 1) = i + 1 := by
 unfold wrap64
 omega
def errMA (eM eA : Value) (c : Nat) : Value := if c = 3 then eM else if c = 1 then eA else .nilIface
end Go.Proofs.YtfonajakaimnoaaDoor.C11

namespace Go.Proofs.YtfonajakaimnoaaDoor.C11
open Go.RowKit Go.Proofs.YtfonajakaimnoaaDoorW.PrintWords Go.Proofs.YtfonajakaimnoaaDoorW.PrintLast Go.Proofs.YtfonajakaimnoaaDoorW.PrintMore Go.Proofs.YtfonajakaimnoaaDoor.Lib Lent Go.Proofs.YtfonajakaimnoaaDoor.Fn
set_option linter.unusedVariables false
set_option linter.unusedSimpArgs false
theorem rd_at (l : List Int) (i : Nat) (h : i < l.length) : rd l (i : Int) = l[i] := by
 unfold rd
 rw [show ((i : Int)).toNat = i from rfl, List.getD_eq_getElem?_getD, List.getElem?_eq_getElem h]
 rfl
end Go.Proofs.YtfonajakaimnoaaDoor.C11

namespace Go.Proofs.YtfonajakaimnoaaDoor.Lib
open Go.RowKit Go.Proofs.YtfonajakaimnoaaDoorW.PrintWords Go.Proofs.YtfonajakaimnoaaDoorW.PrintLast Go.Proofs.YtfonajakaimnoaaDoorW.PrintMore
attribute [local go_sem] max2_int min2_int max_two min_two max_three min_three max_four min_four   -- for this text's walks alone
set_option linter.unusedVariables false
set_option linter.unusedSimpArgs false
def caesuraref12_rises.l0 : Nat → List Int → Int → Int → Int → Option (Bool)
 | 0, _, _, _, _ => none
 | k + 1, x0, x1, x5, x6 => if x6 < (x0.length : Int) then (if 0 ≤ x6 then (if (rd x0 x6) ≤ x5 then (some false) else (if (rd x0 x6) ≥ x1 then (some false) else (caesuraref12_rises.l0 k x0 x1 (rd x0 x6) (wrap64 (x6 + 1))))) else (none)) else (some true)
def caesuraref12_rises.f (k : Nat) (l0 : List Int) (a1 : Int) : Option (Bool) := caesuraref12_rises.l0 k l0 a1 (-1) 0
set_option maxHeartbeats 8000000 in
set_option maxRecDepth 100000 in
theorem caesuraref12_rises.calls (k : Nat) (A0 : Option Addr) (c0 : Nat) (l0 : List Int) (a1 : Int) (r : Bool) (w : World) (hr0 : Kd.C (Kd.int .i64) w A0 l0.length l0) (hc0 : l0.length ≤ c0) (h : caesuraref12_rises.f k l0 a1 = some r) :
  Calls Tryd.prog 115 #[.slice A0 l0.length c0, .int .i64 a1] w fun e w' => e = .returned (.bool r) ∧ Drawn0 w w' := by
 have HR0 := Aside0.mk hr0
 have HC0 := Aside0.mk hc0
 clear hr0 hc0
 have H : (caesuraref12_rises.l0 k l0 a1 (-1) 0) = some r := h
 clear h
 have H' := Aside0.mk H
 clear H
 go_enter Tryd.func115, Tryd.ntmps115
 go_wp2
 go_loopg [5, 6] k (fun kq v5 v6 w' => ∃ (x5_1 : Int) (x6_1 : Int), v5 = .int .i64 x5_1 ∧ v6 = .int .i64 x6_1 ∧ Aside0 (caesuraref12_rises.l0 kq l0 a1 x5_1 x6_1 = some r) ∧ Aside0 (kq ≤ k) ∧ Drawn0 w w')
 case atStart => exact ⟨((-1)), (0), (by first | rfl | (simp; done) | (simp [*]; done)), (by first | rfl | (simp; done) | (simp [*]; done)), H', ⟨Nat.le_refl _⟩, by repeat (first | exact Drawn0.refl _ | apply Drawn0.step)⟩
 case round =>
  clear H'
  try clear c1
  try clear p2
  obtain ⟨x5_1, x6_1, rfl, rfl, HA, HK1, ⟨m1, rfl⟩⟩ := hrel
  cases gk with
  | zero => exact absurd HA.out (by simp [caesuraref12_rises.l0])
  | succ k1 =>
   have H := HA.out
   clear HA
   simp only [caesuraref12_rises.l0] at H
   by_cases c3 : x6_1 < (l0.length : Int)
   ·rw [if_pos c3] at H
    have c3b0 : decide (x6_1 < (l0.length : Int)) = true := decide_eq_true c3
    clear c3
    by_cases c4 : 0 ≤ x6_1
    ·rw [if_pos c4] at H
     have c4b0 : decide (0 ≤ x6_1) = true := decide_eq_true c4
     clear c4
     by_cases c5 : (rd l0 x6_1) ≤ x5_1
     ·rw [if_pos c5] at H
      have c5b0 : decide ((rd l0 x6_1) ≤ x5_1) = true := decide_eq_true c5
      clear c5
      obtain rfl := Option.some.inj H
      have p556 : 0 ≤ (x6_1 : Int) := of_decide_eq_true (by first | (with_reducible assumption) | assumption)
      have q556 : x6_1 < (l0.length : Int) := of_decide_eq_true (by first | (with_reducible assumption) | assumption)
      obtain ⟨ad556, e556, hx556_0⟩ := Kd.at_int HR0.out x6_1 p556 q556
      cases e556
      replace p556 := eq_true p556
      replace q556 := eq_true q556
      go_wp2
      go_ret
      exact ⟨by first | rfl | (simp; done) | (simp [*]; done), by repeat (first | exact Drawn0.refl _ | apply Drawn0.step)⟩
     ·rw [if_neg c5] at H
      have c5b0 : decide ((rd l0 x6_1) ≤ x5_1) = false := decide_eq_false c5
      clear c5
      by_cases c6 : (rd l0 x6_1) ≥ a1
      ·rw [if_pos c6] at H
       have c6b0 : decide (a1 ≤ (rd l0 x6_1)) = true := decide_eq_true c6
       clear c6
       obtain rfl := Option.some.inj H
       have p556 : 0 ≤ (x6_1 : Int) := of_decide_eq_true (by first | (with_reducible assumption) | assumption)
       have q556 : x6_1 < (l0.length : Int) := of_decide_eq_true (by first | (with_reducible assumption) | assumption)
       obtain ⟨ad556, e556, hx556_0⟩ := Kd.at_int HR0.out x6_1 p556 q556
       cases e556
       replace p556 := eq_true p556
       replace q556 := eq_true q556
       have p557 : 0 ≤ (x6_1 : Int) := of_decide_eq_true (by first | (with_reducible assumption) | assumption)
       have q557 : x6_1 < (l0.length : Int) := of_decide_eq_true (by first | (with_reducible assumption) | assumption)
       obtain ⟨ad557, e557, hx557_0⟩ := Kd.at_int HR0.out x6_1 p557 q557
       obtain rfl : ad556 = ad557 := (by injection e557)
       replace p557 := eq_true p557
       replace q557 := eq_true q557
       go_wp2
       go_ret
       exact ⟨by first | rfl | (simp; done) | (simp [*]; done), by repeat (first | exact Drawn0.refl _ | apply Drawn0.step)⟩
      ·rw [if_neg c6] at H
       have c6b0 : decide (a1 ≤ (rd l0 x6_1)) = false := decide_eq_false c6
       clear c6
       have H' := Aside0.mk H
       clear H
       have p556 : 0 ≤ (x6_1 : Int) := of_decide_eq_true (by first | (with_reducible assumption) | assumption)
       have q556 : x6_1 < (l0.length : Int) := of_decide_eq_true (by first | (with_reducible assumption) | assumption)
       obtain ⟨ad556, e556, hx556_0⟩ := Kd.at_int HR0.out x6_1 p556 q556
       cases e556
       replace p556 := eq_true p556
       replace q556 := eq_true q556
       have p557 : 0 ≤ (x6_1 : Int) := of_decide_eq_true (by first | (with_reducible assumption) | assumption)
       have q557 : x6_1 < (l0.length : Int) := of_decide_eq_true (by first | (with_reducible assumption) | assumption)
       obtain ⟨ad557, e557, hx557_0⟩ := Kd.at_int HR0.out x6_1 p557 q557
       obtain rfl : ad556 = ad557 := (by injection e557)
       replace p557 := eq_true p557
       replace q557 := eq_true q557
       have p558 : 0 ≤ (x6_1 : Int) := of_decide_eq_true (by first | (with_reducible assumption) | assumption)
       have q558 : x6_1 < (l0.length : Int) := of_decide_eq_true (by first | (with_reducible assumption) | assumption)
       obtain ⟨ad558, e558, hx558_0⟩ := Kd.at_int HR0.out x6_1 p558 q558
       obtain rfl : ad556 = ad558 := (by injection e558)
       replace p558 := eq_true p558
       replace q558 := eq_true q558
       go_wp2
       go_roundg k1
       case measure => have := HK1.out; omega
       case rel => exact ⟨(rd l0 x6_1), (wrap64 (x6_1 + 1)), (by first | rfl | (simp; done) | (simp [*]; done)), (by first | rfl | (simp; done) | (simp [*]; done)), H', ⟨by have := HK1.out; omega⟩, by repeat (first | exact Drawn0.refl _ | apply Drawn0.step)⟩
    ·rw [if_neg c4] at H
     exact absurd H (by simp)
   ·rw [if_neg c3] at H
    have c3b0 : decide (x6_1 < (l0.length : Int)) = false := decide_eq_false c3
    clear c3
    obtain rfl := Option.some.inj H
    go_wp2
    go_ret
    exact ⟨by first | rfl | (simp; done) | (simp [*]; done), by repeat (first | exact Drawn0.refl _ | apply Drawn0.step)⟩
end Go.Proofs.YtfonajakaimnoaaDoor.Lib

namespace Go.Proofs.YtfonajakaimnoaaDoor.Lib
open Go.RowKit Go.Proofs.YtfonajakaimnoaaDoorW.PrintWords Go.Proofs.YtfonajakaimnoaaDoorW.PrintLast Go.Proofs.YtfonajakaimnoaaDoorW.PrintMore
attribute [local go_sem] max2_int min2_int max_two min_two max_three min_three max_four min_four   -- for this text's walks alone
set_option linter.unusedVariables false
set_option linter.unusedSimpArgs false
mutual
def caesuraref12_Check.j0 : Nat → Int → Int → Int → Bool → Int → List (List Int) → List (List Int) → Option (Int)
 | 0, _, _, _, _, _, _, _ => none
 | k + 1, x1, x2, x7, x55, x560000, x560001, x560002 => if x55 = true then (some 1) else (caesuraref12_Check.l0 k x1 x2 x7 0 x560000 x560001 x560002)
def caesuraref12_Check.l0 : Nat → Int → Int → Int → Int → Int → List (List Int) → List (List Int) → Option (Int)
 | 0, _, _, _, _, _, _, _ => none
 | k + 1, x1, x2, x7, x8, x560000, x560001, x560002 => if x8 < x7 then (if 0 ≤ x8 then (if x8 < (x560001.length : Int) then (if ((rd_L1 x560001 x8).length : Int) = x1 then (caesuraref12_Check.l1 k x1 x2 x7 x8 0 x560000 x560001 x560002) else (some 1)) else (none)) else (none)) else (some 0)
def caesuraref12_Check.l1 : Nat → Int → Int → Int → Int → Int → Int → List (List Int) → List (List Int) → Option (Int)
 | 0, _, _, _, _, _, _, _, _ => none
 | k + 1, x1, x2, x7, x8, x9, x560000, x560001, x560002 => if x9 < x1 then (if 0 ≤ x8 then (if x8 < (x560001.length : Int) then (if 0 ≤ x9 then (if x9 < ((rd_L1 x560001 x8).length : Int) then (if (rd (rd_L1 x560001 x8) x9) < 0 then (some 1) else (if (rd (rd_L1 x560001 x8) x9) ≥ x7 then (some 1) else (caesuraref12_Check.l1 k x1 x2 x7 x8 (wrap64 (x9 + 1)) x560000 x560001 x560002))) else (none)) else (none)) else (none)) else (none)) else (if 0 ≤ x8 then (if x8 < (x560002.length : Int) then ((caesuraref12_rises.f k (rd_L1 x560002 x8) x2).bind fun t566 => (if t566 = true then (caesuraref12_Check.l0 k x1 x2 x7 (wrap64 (x8 + 1)) x560000 x560001 x560002) else (some 1))) else (none)) else (none))
end
def caesuraref12_Check.f (k : Nat) (a0_0 : Int) (l0_1 : List (List Int)) (l0_2 : List (List Int)) (a1 : Int) (a2 : Int) : Option (Int) := if a1 < 1 then (caesuraref12_Check.j0 k a1 a2 (l0_1.length : Int) true a0_0 l0_1 l0_2) else (if a1 > 16384 then (caesuraref12_Check.j0 k a1 a2 (l0_1.length : Int) true a0_0 l0_1 l0_2) else (if a2 < 0 then (caesuraref12_Check.j0 k a1 a2 (l0_1.length : Int) true a0_0 l0_1 l0_2) else (if (l0_1.length : Int) < 1 then (caesuraref12_Check.j0 k a1 a2 (l0_1.length : Int) true a0_0 l0_1 l0_2) else (if (l0_1.length : Int) > 16384 then (caesuraref12_Check.j0 k a1 a2 (l0_1.length : Int) true a0_0 l0_1 l0_2) else (if (l0_2.length : Int) = (l0_1.length : Int) then (if (wrap64 ((l0_1.length : Int) * a1)) > 4194304 then (caesuraref12_Check.j0 k a1 a2 (l0_1.length : Int) true a0_0 l0_1 l0_2) else (if a0_0 < 0 then (caesuraref12_Check.j0 k a1 a2 (l0_1.length : Int) true a0_0 l0_1 l0_2) else (caesuraref12_Check.j0 k a1 a2 (l0_1.length : Int) (decide (a0_0 ≥ (l0_1.length : Int))) a0_0 l0_1 l0_2))) else (caesuraref12_Check.j0 k a1 a2 (l0_1.length : Int) true a0_0 l0_1 l0_2))))))
set_option maxHeartbeats 8000000 in
set_option maxRecDepth 100000 in
theorem caesuraref12_Check.calls (k : Nat) (a0_0 : Int) (A0_1 : Option Addr) (c0_1 : Nat) (l0_1 : List (List Int)) (A0_2 : Option Addr) (c0_2 : Nat) (l0_2 : List (List Int)) (a1 : Int) (a2 : Int) (r : Int) (w : World) (hr0_1 : Kd.C (Kd.slice 3 (Kd.int .i64)) w A0_1 l0_1.length l0_1) (hc0_1 : l0_1.length ≤ c0_1) (hr0_2 : Kd.C (Kd.slice 3 (Kd.int .i64)) w A0_2 l0_2.length l0_2) (hc0_2 : l0_2.length ≤ c0_2) (h : caesuraref12_Check.f k a0_0 l0_1 l0_2 a1 a2 = some r) :
  Calls Tryd.prog 102 #[.agg #[.int .i64 a0_0, .slice A0_1 l0_1.length c0_1, .slice A0_2 l0_2.length c0_2], .int .i64 a1, .int .i64 a2] w fun e w' => e = .returned (.int .i64 r) ∧ Below w.heap.size w w' := by
 have hu24 := Tryd.underlying24
 have HR0_1 := Aside0.mk hr0_1
 have HC0_1 := Aside0.mk hc0_1
 clear hr0_1 hc0_1
 have HR0_2 := Aside0.mk hr0_2
 have HC0_2 := Aside0.mk hc0_2
 clear hr0_2 hc0_2
 have HB := Aside0.mk (Below.refl w.heap.size w)
 have H : (if a1 < 1 then (caesuraref12_Check.j0 k a1 a2 (l0_1.length : Int) true a0_0 l0_1 l0_2) else (if a1 > 16384 then (caesuraref12_Check.j0 k a1 a2 (l0_1.length : Int) true a0_0 l0_1 l0_2) else (if a2 < 0 then (caesuraref12_Check.j0 k a1 a2 (l0_1.length : Int) true a0_0 l0_1 l0_2) else (if (l0_1.length : Int) < 1 then (caesuraref12_Check.j0 k a1 a2 (l0_1.length : Int) true a0_0 l0_1 l0_2) else (if (l0_1.length : Int) > 16384 then (caesuraref12_Check.j0 k a1 a2 (l0_1.length : Int) true a0_0 l0_1 l0_2) else (if (l0_2.length : Int) = (l0_1.length : Int) then (if (wrap64 ((l0_1.length : Int) * a1)) > 4194304 then (caesuraref12_Check.j0 k a1 a2 (l0_1.length : Int) true a0_0 l0_1 l0_2) else (if a0_0 < 0 then (caesuraref12_Check.j0 k a1 a2 (l0_1.length : Int) true a0_0 l0_1 l0_2) else (caesuraref12_Check.j0 k a1 a2 (l0_1.length : Int) (decide (a0_0 ≥ (l0_1.length : Int))) a0_0 l0_1 l0_2))) else (caesuraref12_Check.j0 k a1 a2 (l0_1.length : Int) true a0_0 l0_1 l0_2))))))) = some r := h
 clear h
 have HC4 := Aside0.mk H
 clear H
 go_enter Tryd.func102, Tryd.ntmps102
 go_upto_region 2 with (first | ((with_reducible refine gate_dst (N := 3) rfl ?_); (try (refine gate_guard (by rfl) ?_; dsimp only)); refine box_event ?hg (N := 3) ?hd (cs := #[.int .i64 a0_0, .slice A0_1 l0_1.length c0_1, .slice A0_2 l0_2.length c0_2]) (t := 24) ?hr ?_; (case hd => rfl); (case hg => rfl); (case hr => first | (go_simp; done) | (go_simp; rfl)); intro gb559 hg w5 hbox hb; have n0_ := Aside0.mk (below_step (by repeat (first | (with_reducible first | exact HB.out | apply below_alloc | apply pw_below_drewN | apply below_drew1) | exact HB.out)) hb); have n1_ := Aside0.mk (hbox); have n2_ := Aside0.mk ((by rw [hg]; exact (below_size (by repeat (first | (with_reducible first | exact HB.out | apply below_alloc | apply pw_below_drewN | apply below_drew1) | exact HB.out))) : w.heap.size ≤ gb559)); have n3_ := Aside0.mk ((by rw [hg]; exact (below_size (by repeat (first | (with_reducible first | exact HB.out | apply below_alloc | apply pw_below_drewN | apply below_drew1) | exact HB.out))) : w.heap.size ≤ gb559)); clear HB; have HB := n0_; have BK559 := n1_; have GW559 := n2_; have GE559 := n3_; clear n0_ n1_ n2_ n3_; clear hb hbox hg; have hcz6_0 : w5.cell? ⟨gb559, 0, none⟩ = some (.int .i64 a0_0) := (blk_cell BK559.out 0).trans rfl; have hcz6_1 : w5.cell? ⟨gb559, 1, none⟩ = some (.slice A0_1 l0_1.length c0_1) := (blk_cell BK559.out 1).trans rfl; have hcz6_2 : w5.cell? ⟨gb559, 2, none⟩ = some (.slice A0_2 l0_2.length c0_2) := (blk_cell BK559.out 2).trans rfl; have hfz6_0 := blk_frozen BK559.out 0; have hfz6_1 := blk_frozen BK559.out 1; have hfz6_2 := blk_frozen BK559.out 2))
 (try simp only [Act.put, List.setIfInBounds_toArray, List.set_cons_zero, List.set_cons_succ])
 go_cut [55] (fun v55 wc => ∃ (kq : Nat) (x55_3 : Bool), v55 = .bool x55_3 ∧ Aside0 (caesuraref12_Check.j0 kq a1 a2 (l0_1.length : Int) x55_3 a0_0 l0_1 l0_2 = some r) ∧ Aside0 (kq ≤ k) ∧ Aside0 (wc.heap[gb559]? = some (.cells #[.int .i64 a0_0, (.slice A0_1 l0_1.length c0_1), (.slice A0_2 l0_2.length c0_2)] 24 (0, 0))) ∧ Aside0 (Below w.heap.size w wc))
 case first =>
  have H := HC4.out
  clear HC4
  by_cases c7 : a1 < 1
  ·rw [if_pos c7] at H
   have c7b0 : decide (a1 < 1) = true := decide_eq_true c7
   clear c7
   (first | rw [c7b0] | (simp only [i64_w, i32_w]; rw [c7b0]) | skip)
   have H' := Aside0.mk H
   clear H
   go_wp2
   go_meet
   case rel => exact ⟨_, (true), (by first | rfl | (simp; done) | (simp [*]; done)), H', ⟨by first | omega | exact Nat.le_refl _⟩, ⟨by (with_reducible repeat (first | refine blk_drewN ?_ _ | refine blk_drew ?_ | refine blk_alloc ?_ _)); exact BK559.out⟩, ⟨by repeat (first | (with_reducible first | exact HB.out | apply below_alloc | apply pw_below_drewN | apply below_drew1 | refine below_set ?_ GE559.out) | exact HB.out)⟩⟩
  ·rw [if_neg c7] at H
   have c7b0 : decide (a1 < 1) = false := decide_eq_false c7
   clear c7
   (first | rw [c7b0] | (simp only [i64_w, i32_w]; rw [c7b0]) | skip)
   by_cases c8 : a1 > 16384
   ·rw [if_pos c8] at H
    have c8b0 : decide (16384 < a1) = true := decide_eq_true c8
    clear c8
    have H' := Aside0.mk H
    clear H
    go_wp2
    go_meet
    case rel => exact ⟨_, (true), (by first | rfl | (simp; done) | (simp [*]; done)), H', ⟨by first | omega | exact Nat.le_refl _⟩, ⟨by (with_reducible repeat (first | refine blk_drewN ?_ _ | refine blk_drew ?_ | refine blk_alloc ?_ _)); exact BK559.out⟩, ⟨by repeat (first | (with_reducible first | exact HB.out | apply below_alloc | apply pw_below_drewN | apply below_drew1 | refine below_set ?_ GE559.out) | exact HB.out)⟩⟩
   ·rw [if_neg c8] at H
    have c8b0 : decide (16384 < a1) = false := decide_eq_false c8
    clear c8
    by_cases c9 : a2 < 0
    ·rw [if_pos c9] at H
     have c9b0 : decide (a2 < 0) = true := decide_eq_true c9
     clear c9
     have H' := Aside0.mk H
     clear H
     go_wp2
     go_meet
     case rel => exact ⟨_, (true), (by first | rfl | (simp; done) | (simp [*]; done)), H', ⟨by first | omega | exact Nat.le_refl _⟩, ⟨by (with_reducible repeat (first | refine blk_drewN ?_ _ | refine blk_drew ?_ | refine blk_alloc ?_ _)); exact BK559.out⟩, ⟨by repeat (first | (with_reducible first | exact HB.out | apply below_alloc | apply pw_below_drewN | apply below_drew1 | refine below_set ?_ GE559.out) | exact HB.out)⟩⟩
    ·rw [if_neg c9] at H
     have c9b0 : decide (a2 < 0) = false := decide_eq_false c9
     clear c9
     by_cases c10 : (l0_1.length : Int) < 1
     ·rw [if_pos c10] at H
      have c10b0 : decide ((l0_1.length : Int) < 1) = true := decide_eq_true c10
      have c10b1 : decide (l0_1.length < 1) = true := decide_eq_true (by omega)
      clear c10
      have H' := Aside0.mk H
      clear H
      go_wp2
      go_meet
      case rel => exact ⟨_, (true), (by first | rfl | (simp; done) | (simp [*]; done)), H', ⟨by first | omega | exact Nat.le_refl _⟩, ⟨by (with_reducible repeat (first | refine blk_drewN ?_ _ | refine blk_drew ?_ | refine blk_alloc ?_ _)); exact BK559.out⟩, ⟨by repeat (first | (with_reducible first | exact HB.out | apply below_alloc | apply pw_below_drewN | apply below_drew1 | refine below_set ?_ GE559.out) | exact HB.out)⟩⟩
     ·rw [if_neg c10] at H
      have c10b0 : decide ((l0_1.length : Int) < 1) = false := decide_eq_false c10
      have c10b1 : decide (l0_1.length < 1) = false := decide_eq_false (by omega)
      clear c10
      by_cases c11 : (l0_1.length : Int) > 16384
      ·rw [if_pos c11] at H
       have c11b0 : decide (16384 < (l0_1.length : Int)) = true := decide_eq_true c11
       have c11b1 : decide (16384 < l0_1.length) = true := decide_eq_true (by omega)
       clear c11
       have H' := Aside0.mk H
       clear H
       go_wp2
       go_meet
       case rel => exact ⟨_, (true), (by first | rfl | (simp; done) | (simp [*]; done)), H', ⟨by first | omega | exact Nat.le_refl _⟩, ⟨by (with_reducible repeat (first | refine blk_drewN ?_ _ | refine blk_drew ?_ | refine blk_alloc ?_ _)); exact BK559.out⟩, ⟨by repeat (first | (with_reducible first | exact HB.out | apply below_alloc | apply pw_below_drewN | apply below_drew1 | refine below_set ?_ GE559.out) | exact HB.out)⟩⟩
      ·rw [if_neg c11] at H
       have c11b0 : decide (16384 < (l0_1.length : Int)) = false := decide_eq_false c11
       have c11b1 : decide (16384 < l0_1.length) = false := decide_eq_false (by omega)
       clear c11
       by_cases c12 : (l0_2.length : Int) = (l0_1.length : Int)
       ·rw [if_pos c12] at H
        have c12b0 : ((l0_2.length : Int) == (l0_1.length : Int)) = true := beq_iff_eq.mpr c12
        have c12b1 : ((l0_2.length : Int) != (l0_1.length : Int)) = false := bne_eq_false_iff_eq.mpr c12
        have c12b2 : (l0_2.length == l0_1.length) = true := by first | simpa using c12 | (simp at c12 ⊢; omega)
        clear c12
        by_cases c13 : (wrap64 ((l0_1.length : Int) * a1)) > 4194304
        ·rw [if_pos c13] at H
         have c13b0 : decide (4194304 < (wrap64 ((l0_1.length : Int) * a1))) = true := decide_eq_true c13
         clear c13
         have H' := Aside0.mk H
         clear H
         have hcz14_0 : w5.cell? ⟨gb559, 0, none⟩ = some (.int .i64 a0_0) := (blk_cell BK559.out 0).trans rfl
         have hcz14_1 : w5.cell? ⟨gb559, 1, none⟩ = some (.slice A0_1 l0_1.length c0_1) := (blk_cell BK559.out 1).trans rfl
         have hcz14_2 : w5.cell? ⟨gb559, 2, none⟩ = some (.slice A0_2 l0_2.length c0_2) := (blk_cell BK559.out 2).trans rfl
         have hfz14_0 := blk_frozen BK559.out 0
         have hfz14_1 := blk_frozen BK559.out 1
         have hfz14_2 := blk_frozen BK559.out 2
         go_wp2
         go_meet
         case rel => exact ⟨_, (true), (by first | rfl | (simp; done) | (simp [*]; done)), H', ⟨by first | omega | exact Nat.le_refl _⟩, ⟨by (with_reducible repeat (first | refine blk_drewN ?_ _ | refine blk_drew ?_ | refine blk_alloc ?_ _)); exact BK559.out⟩, ⟨by repeat (first | (with_reducible first | exact HB.out | apply below_alloc | apply pw_below_drewN | apply below_drew1 | refine below_set ?_ GE559.out) | exact HB.out)⟩⟩
        ·rw [if_neg c13] at H
         have c13b0 : decide (4194304 < (wrap64 ((l0_1.length : Int) * a1))) = false := decide_eq_false c13
         clear c13
         by_cases c15 : a0_0 < 0
         ·rw [if_pos c15] at H
          have c15b0 : decide (a0_0 < 0) = true := decide_eq_true c15
          clear c15
          have H' := Aside0.mk H
          clear H
          have hcz16_0 : w5.cell? ⟨gb559, 0, none⟩ = some (.int .i64 a0_0) := (blk_cell BK559.out 0).trans rfl
          have hcz16_1 : w5.cell? ⟨gb559, 1, none⟩ = some (.slice A0_1 l0_1.length c0_1) := (blk_cell BK559.out 1).trans rfl
          have hcz16_2 : w5.cell? ⟨gb559, 2, none⟩ = some (.slice A0_2 l0_2.length c0_2) := (blk_cell BK559.out 2).trans rfl
          have hfz16_0 := blk_frozen BK559.out 0
          have hfz16_1 := blk_frozen BK559.out 1
          have hfz16_2 := blk_frozen BK559.out 2
          go_wp2
          go_meet
          case rel => exact ⟨_, (true), (by first | rfl | (simp; done) | (simp [*]; done)), H', ⟨by first | omega | exact Nat.le_refl _⟩, ⟨by (with_reducible repeat (first | refine blk_drewN ?_ _ | refine blk_drew ?_ | refine blk_alloc ?_ _)); exact BK559.out⟩, ⟨by repeat (first | (with_reducible first | exact HB.out | apply below_alloc | apply pw_below_drewN | apply below_drew1 | refine below_set ?_ GE559.out) | exact HB.out)⟩⟩
         ·rw [if_neg c15] at H
          have c15b0 : decide (a0_0 < 0) = false := decide_eq_false c15
          clear c15
          have H' := Aside0.mk H
          clear H
          have hcz17_0 : w5.cell? ⟨gb559, 0, none⟩ = some (.int .i64 a0_0) := (blk_cell BK559.out 0).trans rfl
          have hcz17_1 : w5.cell? ⟨gb559, 1, none⟩ = some (.slice A0_1 l0_1.length c0_1) := (blk_cell BK559.out 1).trans rfl
          have hcz17_2 : w5.cell? ⟨gb559, 2, none⟩ = some (.slice A0_2 l0_2.length c0_2) := (blk_cell BK559.out 2).trans rfl
          have hfz17_0 := blk_frozen BK559.out 0
          have hfz17_1 := blk_frozen BK559.out 1
          have hfz17_2 := blk_frozen BK559.out 2
          go_wp2
          go_meet
          case rel => exact ⟨_, (decide (a0_0 ≥ (l0_1.length : Int))), (by first | rfl | (simp; done) | (simp [*]; done)), H', ⟨by first | omega | exact Nat.le_refl _⟩, ⟨by (with_reducible repeat (first | refine blk_drewN ?_ _ | refine blk_drew ?_ | refine blk_alloc ?_ _)); exact BK559.out⟩, ⟨by repeat (first | (with_reducible first | exact HB.out | apply below_alloc | apply pw_below_drewN | apply below_drew1 | refine below_set ?_ GE559.out) | exact HB.out)⟩⟩
       ·rw [if_neg c12] at H
        have c12b0 : ((l0_2.length : Int) == (l0_1.length : Int)) = false := beq_eq_false_iff_ne.mpr c12
        have c12b1 : ((l0_2.length : Int) != (l0_1.length : Int)) = true := bne_iff_ne.mpr c12
        have c12b2 : (l0_2.length == l0_1.length) = false := by first | simpa using c12 | (simp at c12 ⊢; omega)
        have H' := Aside0.mk H
        clear H
        have hcz18_0 : w5.cell? ⟨gb559, 0, none⟩ = some (.int .i64 a0_0) := (blk_cell BK559.out 0).trans rfl
        have hcz18_1 : w5.cell? ⟨gb559, 1, none⟩ = some (.slice A0_1 l0_1.length c0_1) := (blk_cell BK559.out 1).trans rfl
        have hcz18_2 : w5.cell? ⟨gb559, 2, none⟩ = some (.slice A0_2 l0_2.length c0_2) := (blk_cell BK559.out 2).trans rfl
        have hfz18_0 := blk_frozen BK559.out 0
        have hfz18_1 := blk_frozen BK559.out 1
        have hfz18_2 := blk_frozen BK559.out 2
        go_wp2
        go_meet
        case rel => exact ⟨_, (true), (by first | rfl | (simp; done) | (simp [*]; done)), H', ⟨by first | omega | exact Nat.le_refl _⟩, ⟨by (with_reducible repeat (first | refine blk_drewN ?_ _ | refine blk_drew ?_ | refine blk_alloc ?_ _)); exact BK559.out⟩, ⟨by repeat (first | (with_reducible first | exact HB.out | apply below_alloc | apply pw_below_drewN | apply below_drew1 | refine below_set ?_ GE559.out) | exact HB.out)⟩⟩
 case rest =>
  clear HC4
  try clear c1
  try clear p2
  try clear p6
  try clear c7
  try clear c7b0
  try clear c8
  try clear c8b0
  try clear c9
  try clear c9b0
  try clear c10
  try clear c10b0
  try clear c10b1
  try clear c11
  try clear c11b0
  try clear c11b1
  try clear c12
  try clear c12b0
  try clear c12b1
  try clear c12b2
  try clear c13
  try clear c13b0
  try clear c15
  try clear c15b0
  try clear hcz14_0
  try clear hcz14_1
  try clear hcz14_2
  try clear hcz16_0
  try clear hcz16_1
  try clear hcz16_2
  try clear hcz17_0
  try clear hcz17_1
  try clear hcz17_2
  try clear hcz18_0
  try clear hcz18_1
  try clear hcz18_2
  try clear hcz6_0
  try clear hcz6_1
  try clear hcz6_2
  try clear hfz14_0
  try clear hfz14_1
  try clear hfz14_2
  try clear hfz16_0
  try clear hfz16_1
  try clear hfz16_2
  try clear hfz17_0
  try clear hfz17_1
  try clear hfz17_2
  try clear hfz18_0
  try clear hfz18_1
  try clear hfz18_2
  try clear hfz6_0
  try clear hfz6_1
  try clear hfz6_2
  obtain ⟨kq, x55_3, rfl, HA, HJ3, BK559, HB⟩ := hcut
  cases kq with
  | zero => exact absurd HA.out (by simp [caesuraref12_Check.j0])
  | succ kj3 =>
   have H := HA.out
   clear HA
   simp only [caesuraref12_Check.j0] at H
   by_cases c19 : x55_3 = true
   ·subst c19
    have H1 : (some 1) = some r := by rw [if_pos rfl] at H; exact H
    clear H
    have H := H1
    clear H1
    obtain rfl := Option.some.inj H
    go_wp2
    go_ret
    exact ⟨by first | rfl | (simp [errW_none, errW_some] <;> rfl) | (simp [*, errW_none, errW_some] <;> rfl), by repeat (first | (with_reducible first | exact HB.out | apply below_alloc | apply pw_below_drewN | apply below_drew1 | refine below_set ?_ GE559.out) | exact HB.out)⟩
   ·replace c19 := Bool.eq_false_iff.mpr c19
    subst c19
    have H1 : (caesuraref12_Check.l0 kj3 a1 a2 (l0_1.length : Int) 0 a0_0 l0_1 l0_2) = some r := by rw [if_neg (show ¬ (false = true) by decide)] at H; exact H
    clear H
    have H := H1
    clear H1
    have H' := Aside0.mk H
    clear H
    go_wp2
    go_loopg [8] kj3 (fun kq v8 w' => ∃ (x8_2 : Int), v8 = .int .i64 x8_2 ∧ Aside0 (caesuraref12_Check.l0 kq a1 a2 (l0_1.length : Int) x8_2 a0_0 l0_1 l0_2 = some r) ∧ Aside0 (kq ≤ kj3) ∧ Aside0 (w'.heap[gb559]? = some (.cells #[.int .i64 a0_0, (.slice A0_1 l0_1.length c0_1), (.slice A0_2 l0_2.length c0_2)] 24 (0, 0))) ∧ Aside0 (Below w.heap.size w w'))
    case atStart => exact ⟨(0), (by first | rfl | (simp; done) | (simp [*]; done)), H', ⟨Nat.le_refl _⟩, ⟨by (with_reducible repeat (first | refine blk_drewN ?_ _ | refine blk_drew ?_ | refine blk_alloc ?_ _)); exact BK559.out⟩, ⟨by repeat (first | (with_reducible first | exact HB.out | apply below_alloc | apply pw_below_drewN | apply below_drew1 | refine below_set ?_ GE559.out) | exact HB.out)⟩⟩
    case round =>
     clear H'
     try clear c1
     try clear p2
     try clear p6
     try clear c7
     try clear c7b0
     try clear c8
     try clear c8b0
     try clear c9
     try clear c9b0
     try clear c10
     try clear c10b0
     try clear c10b1
     try clear c11
     try clear c11b0
     try clear c11b1
     try clear c12
     try clear c12b0
     try clear c12b1
     try clear c12b2
     try clear c13
     try clear c13b0
     try clear c15
     try clear c15b0
     try clear c19
     try clear hcz14_0
     try clear hcz14_1
     try clear hcz14_2
     try clear hcz16_0
     try clear hcz16_1
     try clear hcz16_2
     try clear hcz17_0
     try clear hcz17_1
     try clear hcz17_2
     try clear hcz18_0
     try clear hcz18_1
     try clear hcz18_2
     try clear hcz6_0
     try clear hcz6_1
     try clear hcz6_2
     try clear hfz14_0
     try clear hfz14_1
     try clear hfz14_2
     try clear hfz16_0
     try clear hfz16_1
     try clear hfz16_2
     try clear hfz17_0
     try clear hfz17_1
     try clear hfz17_2
     try clear hfz18_0
     try clear hfz18_1
     try clear hfz18_2
     try clear hfz6_0
     try clear hfz6_1
     try clear hfz6_2
     try clear p2
     try clear p6
     obtain ⟨x8_2, rfl, HA, HK2, BK559, HB⟩ := hrel
     cases gk with
     | zero => exact absurd HA.out (by simp [caesuraref12_Check.l0])
     | succ k2 =>
      have H := HA.out
      clear HA
      simp only [caesuraref12_Check.l0] at H
      by_cases c20 : x8_2 < (l0_1.length : Int)
      ·rw [if_pos c20] at H
       have c20b0 : decide (x8_2 < (l0_1.length : Int)) = true := decide_eq_true c20
       clear c20
       by_cases c21 : 0 ≤ x8_2
       ·rw [if_pos c21] at H
        have c21b0 : decide (0 ≤ x8_2) = true := decide_eq_true c21
        clear c21
        by_cases c22 : x8_2 < (l0_1.length : Int)
        ·rw [if_pos c22] at H
         have c22b0 : decide (x8_2 < (l0_1.length : Int)) = true := decide_eq_true c22
         clear c22
         by_cases c23 : ((rd_L1 l0_1 x8_2).length : Int) = a1
         ·rw [if_pos c23] at H
          have c23b0 : (((rd_L1 l0_1 x8_2).length : Int) == a1) = true := beq_iff_eq.mpr c23
          have c23b1 : (((rd_L1 l0_1 x8_2).length : Int) != a1) = false := bne_eq_false_iff_eq.mpr c23
          clear c23
          have H' := Aside0.mk H
          clear H
          have hcz24_0 : wr.cell? ⟨gb559, 0, none⟩ = some (.int .i64 a0_0) := (blk_cell BK559.out 0).trans rfl
          have hcz24_1 : wr.cell? ⟨gb559, 1, none⟩ = some (.slice A0_1 l0_1.length c0_1) := (blk_cell BK559.out 1).trans rfl
          have hcz24_2 : wr.cell? ⟨gb559, 2, none⟩ = some (.slice A0_2 l0_2.length c0_2) := (blk_cell BK559.out 2).trans rfl
          have hfz24_0 := blk_frozen BK559.out 0
          have hfz24_1 := blk_frozen BK559.out 1
          have hfz24_2 := blk_frozen BK559.out 2
          have p560 : 0 ≤ (x8_2 : Int) := of_decide_eq_true (by first | (with_reducible assumption) | assumption)
          have q560 : x8_2 < (l0_1.length : Int) := of_decide_eq_true (by first | (with_reducible assumption) | assumption)
          obtain ⟨ad560, A560_0, c560_0, e560, hx560_0, hl560_0, hi560_0⟩ := at_L1 HR0_1.out x8_2 p560 q560
          cases e560
          replace hx560_0 := (HB.out.cell (World.block_lt_of_cell? w _ hx560_0)).trans hx560_0
          have HR560_0 := Aside0.mk hi560_0
          have HC560_0 := Aside0.mk hl560_0
          clear hi560_0 hl560_0
          replace p560 := eq_true p560
          replace q560 := eq_true q560
          go_wp2
          go_loopg [9] k2 (fun kq v9 w' => ∃ (x9_3 : Int), v9 = .int .i64 x9_3 ∧ Aside0 (caesuraref12_Check.l1 kq a1 a2 (l0_1.length : Int) x8_2 x9_3 a0_0 l0_1 l0_2 = some r) ∧ Aside0 (kq ≤ k2) ∧ Aside0 (w'.heap[gb559]? = some (.cells #[.int .i64 a0_0, (.slice (some ad560) l0_1.length c0_1), (.slice A0_2 l0_2.length c0_2)] 24 (0, 0))) ∧ Aside0 (Below w.heap.size w w'))
          case atStart => exact ⟨(0), (by first | rfl | (simp; done) | (simp [*]; done)), H', ⟨Nat.le_refl _⟩, ⟨by (with_reducible repeat (first | refine blk_drewN ?_ _ | refine blk_drew ?_ | refine blk_alloc ?_ _)); exact BK559.out⟩, ⟨by repeat (first | (with_reducible first | exact HB.out | apply below_alloc | apply pw_below_drewN | apply below_drew1 | refine below_set ?_ GE559.out) | exact HB.out)⟩⟩
          case round =>
           clear H'
           try clear c1
           try clear c2
           try clear p2
           try clear c5
           try clear p5
           try clear q5
           try clear hx5
           try clear p6
           try clear c7
           try clear c7b0
           try clear c8
           try clear c8b0
           try clear c9
           try clear c9b0
           try clear c10
           try clear c10b0
           try clear c10b1
           try clear c11
           try clear c11b0
           try clear c11b1
           try clear c12
           try clear c12b0
           try clear c12b1
           try clear c12b2
           try clear c13
           try clear c13b0
           try clear c15
           try clear c15b0
           try clear c19
           try clear c20
           try clear c20b0
           try clear c21
           try clear c21b0
           try clear c22
           try clear c22b0
           try clear c23
           try clear c23b0
           try clear c23b1
           try clear hcz14_0
           try clear hcz14_1
           try clear hcz14_2
           try clear hcz16_0
           try clear hcz16_1
           try clear hcz16_2
           try clear hcz17_0
           try clear hcz17_1
           try clear hcz17_2
           try clear hcz18_0
           try clear hcz18_1
           try clear hcz18_2
           try clear hcz24_0
           try clear hcz24_1
           try clear hcz24_2
           try clear hcz6_0
           try clear hcz6_1
           try clear hcz6_2
           try clear hfz14_0
           try clear hfz14_1
           try clear hfz14_2
           try clear hfz16_0
           try clear hfz16_1
           try clear hfz16_2
           try clear hfz17_0
           try clear hfz17_1
           try clear hfz17_2
           try clear hfz18_0
           try clear hfz18_1
           try clear hfz18_2
           try clear hfz24_0
           try clear hfz24_1
           try clear hfz24_2
           try clear hfz6_0
           try clear hfz6_1
           try clear hfz6_2
           try clear hx560_0
           try clear p2
           try clear p560
           try clear p6
           try clear q560
           obtain ⟨x9_3, rfl, HA, HK3, BK559, HB⟩ := hrel
           cases gk with
           | zero => exact absurd HA.out (by simp [caesuraref12_Check.l1])
           | succ k3 =>
            have H := HA.out
            clear HA
            simp only [caesuraref12_Check.l1] at H
            by_cases c25 : x9_3 < a1
            ·rw [if_pos c25] at H
             have c25b0 : decide (x9_3 < a1) = true := decide_eq_true c25
             clear c25
             by_cases c26 : 0 ≤ x8_2
             ·rw [if_pos c26] at H
              have c26b0 : decide (0 ≤ x8_2) = true := decide_eq_true c26
              clear c26
              by_cases c27 : x8_2 < (l0_1.length : Int)
              ·rw [if_pos c27] at H
               have c27b0 : decide (x8_2 < (l0_1.length : Int)) = true := decide_eq_true c27
               clear c27
               by_cases c28 : 0 ≤ x9_3
               ·rw [if_pos c28] at H
                have c28b0 : decide (0 ≤ x9_3) = true := decide_eq_true c28
                clear c28
                by_cases c29 : x9_3 < ((rd_L1 l0_1 x8_2).length : Int)
                ·rw [if_pos c29] at H
                 have c29b0 : decide (x9_3 < ((rd_L1 l0_1 x8_2).length : Int)) = true := decide_eq_true c29
                 clear c29
                 by_cases c30 : (rd (rd_L1 l0_1 x8_2) x9_3) < 0
                 ·rw [if_pos c30] at H
                  have c30b0 : decide ((rd (rd_L1 l0_1 x8_2) x9_3) < 0) = true := decide_eq_true c30
                  clear c30
                  obtain rfl := Option.some.inj H
                  have hcz31_0 : wr.cell? ⟨gb559, 0, none⟩ = some (.int .i64 a0_0) := (blk_cell BK559.out 0).trans rfl
                  have hcz31_1 : wr.cell? ⟨gb559, 1, none⟩ = some (.slice (some ad560) l0_1.length c0_1) := (blk_cell BK559.out 1).trans rfl
                  have hcz31_2 : wr.cell? ⟨gb559, 2, none⟩ = some (.slice A0_2 l0_2.length c0_2) := (blk_cell BK559.out 2).trans rfl
                  have hfz31_0 := blk_frozen BK559.out 0
                  have hfz31_1 := blk_frozen BK559.out 1
                  have hfz31_2 := blk_frozen BK559.out 2
                  have p561 : 0 ≤ (x8_2 : Int) := of_decide_eq_true (by first | (with_reducible assumption) | assumption)
                  have q561 : x8_2 < (l0_1.length : Int) := of_decide_eq_true (by first | (with_reducible assumption) | assumption)
                  obtain ⟨ad561, A561_0, c561_0, e561, hx561_0, hl561_0, hi561_0⟩ := at_L1 HR0_1.out x8_2 p561 q561
                  obtain rfl : ad560 = ad561 := (by injection e561)
                  replace hx561_0 := (HB.out.cell (World.block_lt_of_cell? w _ hx561_0)).trans hx561_0
                  have HR561_0 := Aside0.mk hi561_0
                  have HC561_0 := Aside0.mk hl561_0
                  clear hi561_0 hl561_0
                  replace p561 := eq_true p561
                  replace q561 := eq_true q561
                  have p562 : 0 ≤ (x9_3 : Int) := of_decide_eq_true (by first | (with_reducible assumption) | assumption)
                  have q562 : x9_3 < ((rd_L1 l0_1 x8_2).length : Int) := of_decide_eq_true (by first | (with_reducible assumption) | assumption)
                  obtain ⟨ad562, e562, hx562_0⟩ := Kd.at_int HR561_0.out x9_3 p562 q562
                  cases e562
                  replace hx562_0 := (HB.out.cell (World.block_lt_of_cell? w _ hx562_0)).trans hx562_0
                  replace p562 := eq_true p562
                  replace q562 := eq_true q562
                  go_wp2
                  go_ret
                  exact ⟨by first | rfl | (simp [errW_none, errW_some] <;> rfl) | (simp [*, errW_none, errW_some] <;> rfl), by repeat (first | (with_reducible first | exact HB.out | apply below_alloc | apply pw_below_drewN | apply below_drew1 | refine below_set ?_ GE559.out) | exact HB.out)⟩
                 ·rw [if_neg c30] at H
                  have c30b0 : decide ((rd (rd_L1 l0_1 x8_2) x9_3) < 0) = false := decide_eq_false c30
                  clear c30
                  by_cases c32 : (rd (rd_L1 l0_1 x8_2) x9_3) ≥ (l0_1.length : Int)
                  ·rw [if_pos c32] at H
                   have c32b0 : decide ((l0_1.length : Int) ≤ (rd (rd_L1 l0_1 x8_2) x9_3)) = true := decide_eq_true c32
                   clear c32
                   obtain rfl := Option.some.inj H
                   have hcz33_0 : wr.cell? ⟨gb559, 0, none⟩ = some (.int .i64 a0_0) := (blk_cell BK559.out 0).trans rfl
                   have hcz33_1 : wr.cell? ⟨gb559, 1, none⟩ = some (.slice (some ad560) l0_1.length c0_1) := (blk_cell BK559.out 1).trans rfl
                   have hcz33_2 : wr.cell? ⟨gb559, 2, none⟩ = some (.slice A0_2 l0_2.length c0_2) := (blk_cell BK559.out 2).trans rfl
                   have hfz33_0 := blk_frozen BK559.out 0
                   have hfz33_1 := blk_frozen BK559.out 1
                   have hfz33_2 := blk_frozen BK559.out 2
                   have p561 : 0 ≤ (x8_2 : Int) := of_decide_eq_true (by first | (with_reducible assumption) | assumption)
                   have q561 : x8_2 < (l0_1.length : Int) := of_decide_eq_true (by first | (with_reducible assumption) | assumption)
                   obtain ⟨ad561, A561_0, c561_0, e561, hx561_0, hl561_0, hi561_0⟩ := at_L1 HR0_1.out x8_2 p561 q561
                   obtain rfl : ad560 = ad561 := (by injection e561)
                   replace hx561_0 := (HB.out.cell (World.block_lt_of_cell? w _ hx561_0)).trans hx561_0
                   have HR561_0 := Aside0.mk hi561_0
                   have HC561_0 := Aside0.mk hl561_0
                   clear hi561_0 hl561_0
                   replace p561 := eq_true p561
                   replace q561 := eq_true q561
                   have p562 : 0 ≤ (x9_3 : Int) := of_decide_eq_true (by first | (with_reducible assumption) | assumption)
                   have q562 : x9_3 < ((rd_L1 l0_1 x8_2).length : Int) := of_decide_eq_true (by first | (with_reducible assumption) | assumption)
                   obtain ⟨ad562, e562, hx562_0⟩ := Kd.at_int HR561_0.out x9_3 p562 q562
                   cases e562
                   replace hx562_0 := (HB.out.cell (World.block_lt_of_cell? w _ hx562_0)).trans hx562_0
                   replace p562 := eq_true p562
                   replace q562 := eq_true q562
                   have p563 : 0 ≤ (x8_2 : Int) := of_decide_eq_true (by first | (with_reducible assumption) | assumption)
                   have q563 : x8_2 < (l0_1.length : Int) := of_decide_eq_true (by first | (with_reducible assumption) | assumption)
                   obtain ⟨ad563, A563_0, c563_0, e563, hx563_0, hl563_0, hi563_0⟩ := at_L1 HR0_1.out x8_2 p563 q563
                   obtain rfl : ad560 = ad563 := (by injection e563)
                   replace hx563_0 := (HB.out.cell (World.block_lt_of_cell? w _ hx563_0)).trans hx563_0
                   have HR563_0 := Aside0.mk hi563_0
                   have HC563_0 := Aside0.mk hl563_0
                   clear hi563_0 hl563_0
                   replace p563 := eq_true p563
                   replace q563 := eq_true q563
                   have ea_ := Option.some.inj (hx561_0.symm.trans hx563_0)
                   injection ea_ with ea_ en_ ec_
                   subst ea_
                   subst ec_
                   clear en_
                   have p564 : 0 ≤ (x9_3 : Int) := of_decide_eq_true (by first | (with_reducible assumption) | assumption)
                   have q564 : x9_3 < ((rd_L1 l0_1 x8_2).length : Int) := of_decide_eq_true (by first | (with_reducible assumption) | assumption)
                   obtain ⟨ad564, e564, hx564_0⟩ := Kd.at_int HR563_0.out x9_3 p564 q564
                   cases e564
                   replace hx564_0 := (HB.out.cell (World.block_lt_of_cell? w _ hx564_0)).trans hx564_0
                   replace p564 := eq_true p564
                   replace q564 := eq_true q564
                   go_wp2
                   go_ret
                   exact ⟨by first | rfl | (simp [errW_none, errW_some] <;> rfl) | (simp [*, errW_none, errW_some] <;> rfl), by repeat (first | (with_reducible first | exact HB.out | apply below_alloc | apply pw_below_drewN | apply below_drew1 | refine below_set ?_ GE559.out) | exact HB.out)⟩
                  ·rw [if_neg c32] at H
                   have c32b0 : decide ((l0_1.length : Int) ≤ (rd (rd_L1 l0_1 x8_2) x9_3)) = false := decide_eq_false c32
                   clear c32
                   have H' := Aside0.mk H
                   clear H
                   have hcz34_0 : wr.cell? ⟨gb559, 0, none⟩ = some (.int .i64 a0_0) := (blk_cell BK559.out 0).trans rfl
                   have hcz34_1 : wr.cell? ⟨gb559, 1, none⟩ = some (.slice (some ad560) l0_1.length c0_1) := (blk_cell BK559.out 1).trans rfl
                   have hcz34_2 : wr.cell? ⟨gb559, 2, none⟩ = some (.slice A0_2 l0_2.length c0_2) := (blk_cell BK559.out 2).trans rfl
                   have hfz34_0 := blk_frozen BK559.out 0
                   have hfz34_1 := blk_frozen BK559.out 1
                   have hfz34_2 := blk_frozen BK559.out 2
                   have p561 : 0 ≤ (x8_2 : Int) := of_decide_eq_true (by first | (with_reducible assumption) | assumption)
                   have q561 : x8_2 < (l0_1.length : Int) := of_decide_eq_true (by first | (with_reducible assumption) | assumption)
                   obtain ⟨ad561, A561_0, c561_0, e561, hx561_0, hl561_0, hi561_0⟩ := at_L1 HR0_1.out x8_2 p561 q561
                   obtain rfl : ad560 = ad561 := (by injection e561)
                   replace hx561_0 := (HB.out.cell (World.block_lt_of_cell? w _ hx561_0)).trans hx561_0
                   have HR561_0 := Aside0.mk hi561_0
                   have HC561_0 := Aside0.mk hl561_0
                   clear hi561_0 hl561_0
                   replace p561 := eq_true p561
                   replace q561 := eq_true q561
                   have p562 : 0 ≤ (x9_3 : Int) := of_decide_eq_true (by first | (with_reducible assumption) | assumption)
                   have q562 : x9_3 < ((rd_L1 l0_1 x8_2).length : Int) := of_decide_eq_true (by first | (with_reducible assumption) | assumption)
                   obtain ⟨ad562, e562, hx562_0⟩ := Kd.at_int HR561_0.out x9_3 p562 q562
                   cases e562
                   replace hx562_0 := (HB.out.cell (World.block_lt_of_cell? w _ hx562_0)).trans hx562_0
                   replace p562 := eq_true p562
                   replace q562 := eq_true q562
                   have p563 : 0 ≤ (x8_2 : Int) := of_decide_eq_true (by first | (with_reducible assumption) | assumption)
                   have q563 : x8_2 < (l0_1.length : Int) := of_decide_eq_true (by first | (with_reducible assumption) | assumption)
                   obtain ⟨ad563, A563_0, c563_0, e563, hx563_0, hl563_0, hi563_0⟩ := at_L1 HR0_1.out x8_2 p563 q563
                   obtain rfl : ad560 = ad563 := (by injection e563)
                   replace hx563_0 := (HB.out.cell (World.block_lt_of_cell? w _ hx563_0)).trans hx563_0
                   have HR563_0 := Aside0.mk hi563_0
                   have HC563_0 := Aside0.mk hl563_0
                   clear hi563_0 hl563_0
                   replace p563 := eq_true p563
                   replace q563 := eq_true q563
                   have ea_ := Option.some.inj (hx561_0.symm.trans hx563_0)
                   injection ea_ with ea_ en_ ec_
                   subst ea_
                   subst ec_
                   clear en_
                   have p564 : 0 ≤ (x9_3 : Int) := of_decide_eq_true (by first | (with_reducible assumption) | assumption)
                   have q564 : x9_3 < ((rd_L1 l0_1 x8_2).length : Int) := of_decide_eq_true (by first | (with_reducible assumption) | assumption)
                   obtain ⟨ad564, e564, hx564_0⟩ := Kd.at_int HR563_0.out x9_3 p564 q564
                   cases e564
                   replace hx564_0 := (HB.out.cell (World.block_lt_of_cell? w _ hx564_0)).trans hx564_0
                   replace p564 := eq_true p564
                   replace q564 := eq_true q564
                   go_wp2
                   go_roundg k3
                   case measure => have := HJ3.out; have := HK2.out; have := HK3.out; omega
                   case rel => exact ⟨(wrap64 (x9_3 + 1)), (by first | rfl | (simp; done) | (simp [*]; done)), H', ⟨by have := HJ3.out; have := HK2.out; have := HK3.out; omega⟩, ⟨by (with_reducible repeat (first | refine blk_drewN ?_ _ | refine blk_drew ?_ | refine blk_alloc ?_ _)); exact BK559.out⟩, ⟨by repeat (first | (with_reducible first | exact HB.out | apply below_alloc | apply pw_below_drewN | apply below_drew1 | refine below_set ?_ GE559.out) | exact HB.out)⟩⟩
                ·rw [if_neg c29] at H
                 exact absurd H (by simp)
               ·rw [if_neg c28] at H
                exact absurd H (by simp)
              ·rw [if_neg c27] at H
               exact absurd H (by simp)
             ·rw [if_neg c26] at H
              exact absurd H (by simp)
            ·rw [if_neg c25] at H
             have c25b0 : decide (x9_3 < a1) = false := decide_eq_false c25
             clear c25
             by_cases c35 : 0 ≤ x8_2
             ·rw [if_pos c35] at H
              have c35b0 : decide (0 ≤ x8_2) = true := decide_eq_true c35
              clear c35
              by_cases c36 : x8_2 < (l0_2.length : Int)
              ·rw [if_pos c36] at H
               have c36b0 : decide (x8_2 < (l0_2.length : Int)) = true := decide_eq_true c36
               clear c36
               replace H := Option.bind_eq_some_iff.mp H
               obtain ⟨t566, A370, H⟩ := H
               replace H : (if t566 = true then (caesuraref12_Check.l0 k3 a1 a2 (l0_1.length : Int) (wrap64 (x8_2 + 1)) a0_0 l0_1 l0_2) else (some 1)) = some r := H
               have A37 := Aside0.mk A370
               clear A370
               by_cases c38 : t566 = true
               ·subst c38
                have H1 : (caesuraref12_Check.l0 k3 a1 a2 (l0_1.length : Int) (wrap64 (x8_2 + 1)) a0_0 l0_1 l0_2) = some r := by rw [if_pos rfl] at H; exact H
                clear H
                have H := H1
                clear H1
                have H' := Aside0.mk H
                clear H
                have hcz39_0 : wr.cell? ⟨gb559, 0, none⟩ = some (.int .i64 a0_0) := (blk_cell BK559.out 0).trans rfl
                have hcz39_1 : wr.cell? ⟨gb559, 1, none⟩ = some (.slice (some ad560) l0_1.length c0_1) := (blk_cell BK559.out 1).trans rfl
                have hcz39_2 : wr.cell? ⟨gb559, 2, none⟩ = some (.slice A0_2 l0_2.length c0_2) := (blk_cell BK559.out 2).trans rfl
                have hfz39_0 := blk_frozen BK559.out 0
                have hfz39_1 := blk_frozen BK559.out 1
                have hfz39_2 := blk_frozen BK559.out 2
                have p565 : 0 ≤ (x8_2 : Int) := of_decide_eq_true (by first | (with_reducible assumption) | assumption)
                have q565 : x8_2 < (l0_2.length : Int) := of_decide_eq_true (by first | (with_reducible assumption) | assumption)
                obtain ⟨ad565, A565_0, c565_0, e565, hx565_0, hl565_0, hi565_0⟩ := at_L1 HR0_2.out x8_2 p565 q565
                cases e565
                replace hx565_0 := (HB.out.cell (World.block_lt_of_cell? w _ hx565_0)).trans hx565_0
                have HR565_0 := Aside0.mk hi565_0
                have HC565_0 := Aside0.mk hl565_0
                clear hi565_0 hl565_0
                replace p565 := eq_true p565
                replace q565 := eq_true q565
                go_wp2_with (first | ((with_reducible refine gate_callee (f := 115) rfl ?_); refine goesL_ (some 101) rfl rfl Tryd.func115 (by kernel_rfl) rfl #[.slice A565_0 (rd_L1 l0_2 x8_2).length c565_0, .int .i64 a2] rfl (by (try simp only [List.map_toArray, List.map_cons, List.map_nil]); first | done | rfl | (simp only [List.length_drop, List.length_take]; rfl)) ?_; (with_reducible refine (caesuraref12_rises.calls k3 _ _ (rd_L1 l0_2 x8_2) a2 true _ ?side1 ?side2 A37.out).mono ?_); (case side1 => repeat (first | exact (Kd.C_below HR565_0.out HB.out) | (with_reducible refine Kd.C_alloc ?_ _) | (with_reducible refine Kd.C_drewN ?_ _) | (with_reducible refine Kd.C_drew ?_))); (case side2 => exact HC565_0.out); rintro e w' ⟨rfl, ⟨nd, rfl⟩⟩; refine ⟨_, rfl, ?_⟩))
                go_roundg k3
                case measure => have := HJ3.out; have := HK2.out; have := HK3.out; omega
                case rel => exact ⟨(wrap64 (x8_2 + 1)), (by first | rfl | (simp; done) | (simp [*]; done)), H', ⟨by have := HJ3.out; have := HK2.out; have := HK3.out; omega⟩, ⟨by (with_reducible repeat (first | refine blk_drewN ?_ _ | refine blk_drew ?_ | refine blk_alloc ?_ _)); exact BK559.out⟩, ⟨by repeat (first | (with_reducible first | exact HB.out | apply below_alloc | apply pw_below_drewN | apply below_drew1 | refine below_set ?_ GE559.out) | exact HB.out)⟩⟩
               ·replace c38 := Bool.eq_false_iff.mpr c38
                subst c38
                have H1 : (some 1) = some r := by rw [if_neg (show ¬ (false = true) by decide)] at H; exact H
                clear H
                have H := H1
                clear H1
                obtain rfl := Option.some.inj H
                have hcz40_0 : wr.cell? ⟨gb559, 0, none⟩ = some (.int .i64 a0_0) := (blk_cell BK559.out 0).trans rfl
                have hcz40_1 : wr.cell? ⟨gb559, 1, none⟩ = some (.slice (some ad560) l0_1.length c0_1) := (blk_cell BK559.out 1).trans rfl
                have hcz40_2 : wr.cell? ⟨gb559, 2, none⟩ = some (.slice A0_2 l0_2.length c0_2) := (blk_cell BK559.out 2).trans rfl
                have hfz40_0 := blk_frozen BK559.out 0
                have hfz40_1 := blk_frozen BK559.out 1
                have hfz40_2 := blk_frozen BK559.out 2
                have p565 : 0 ≤ (x8_2 : Int) := of_decide_eq_true (by first | (with_reducible assumption) | assumption)
                have q565 : x8_2 < (l0_2.length : Int) := of_decide_eq_true (by first | (with_reducible assumption) | assumption)
                obtain ⟨ad565, A565_0, c565_0, e565, hx565_0, hl565_0, hi565_0⟩ := at_L1 HR0_2.out x8_2 p565 q565
                cases e565
                replace hx565_0 := (HB.out.cell (World.block_lt_of_cell? w _ hx565_0)).trans hx565_0
                have HR565_0 := Aside0.mk hi565_0
                have HC565_0 := Aside0.mk hl565_0
                clear hi565_0 hl565_0
                replace p565 := eq_true p565
                replace q565 := eq_true q565
                go_wp2_with (first | ((with_reducible refine gate_callee (f := 115) rfl ?_); refine goesL_ (some 101) rfl rfl Tryd.func115 (by kernel_rfl) rfl #[.slice A565_0 (rd_L1 l0_2 x8_2).length c565_0, .int .i64 a2] rfl (by (try simp only [List.map_toArray, List.map_cons, List.map_nil]); first | done | rfl | (simp only [List.length_drop, List.length_take]; rfl)) ?_; (with_reducible refine (caesuraref12_rises.calls k3 _ _ (rd_L1 l0_2 x8_2) a2 false _ ?side1 ?side2 A37.out).mono ?_); (case side1 => repeat (first | exact (Kd.C_below HR565_0.out HB.out) | (with_reducible refine Kd.C_alloc ?_ _) | (with_reducible refine Kd.C_drewN ?_ _) | (with_reducible refine Kd.C_drew ?_))); (case side2 => exact HC565_0.out); rintro e w' ⟨rfl, ⟨nd, rfl⟩⟩; refine ⟨_, rfl, ?_⟩))
                go_ret
                exact ⟨by first | rfl | (simp [errW_none, errW_some] <;> rfl) | (simp [*, errW_none, errW_some] <;> rfl), by repeat (first | (with_reducible first | exact HB.out | apply below_alloc | apply pw_below_drewN | apply below_drew1 | refine below_set ?_ GE559.out) | exact HB.out)⟩
              ·rw [if_neg c36] at H
               exact absurd H (by simp)
             ·rw [if_neg c35] at H
              exact absurd H (by simp)
         ·rw [if_neg c23] at H
          have c23b0 : (((rd_L1 l0_1 x8_2).length : Int) == a1) = false := beq_eq_false_iff_ne.mpr c23
          have c23b1 : (((rd_L1 l0_1 x8_2).length : Int) != a1) = true := bne_iff_ne.mpr c23
          obtain rfl := Option.some.inj H
          have hcz41_0 : wr.cell? ⟨gb559, 0, none⟩ = some (.int .i64 a0_0) := (blk_cell BK559.out 0).trans rfl
          have hcz41_1 : wr.cell? ⟨gb559, 1, none⟩ = some (.slice A0_1 l0_1.length c0_1) := (blk_cell BK559.out 1).trans rfl
          have hcz41_2 : wr.cell? ⟨gb559, 2, none⟩ = some (.slice A0_2 l0_2.length c0_2) := (blk_cell BK559.out 2).trans rfl
          have hfz41_0 := blk_frozen BK559.out 0
          have hfz41_1 := blk_frozen BK559.out 1
          have hfz41_2 := blk_frozen BK559.out 2
          have p560 : 0 ≤ (x8_2 : Int) := of_decide_eq_true (by first | (with_reducible assumption) | assumption)
          have q560 : x8_2 < (l0_1.length : Int) := of_decide_eq_true (by first | (with_reducible assumption) | assumption)
          obtain ⟨ad560, A560_0, c560_0, e560, hx560_0, hl560_0, hi560_0⟩ := at_L1 HR0_1.out x8_2 p560 q560
          cases e560
          replace hx560_0 := (HB.out.cell (World.block_lt_of_cell? w _ hx560_0)).trans hx560_0
          have HR560_0 := Aside0.mk hi560_0
          have HC560_0 := Aside0.mk hl560_0
          clear hi560_0 hl560_0
          replace p560 := eq_true p560
          replace q560 := eq_true q560
          go_wp2
          go_ret
          exact ⟨by first | rfl | (simp [errW_none, errW_some] <;> rfl) | (simp [*, errW_none, errW_some] <;> rfl), by repeat (first | (with_reducible first | exact HB.out | apply below_alloc | apply pw_below_drewN | apply below_drew1 | refine below_set ?_ GE559.out) | exact HB.out)⟩
        ·rw [if_neg c22] at H
         exact absurd H (by simp)
       ·rw [if_neg c21] at H
        exact absurd H (by simp)
      ·rw [if_neg c20] at H
       have c20b0 : decide (x8_2 < (l0_1.length : Int)) = false := decide_eq_false c20
       clear c20
       obtain rfl := Option.some.inj H
       go_wp2
       go_ret
       exact ⟨by first | rfl | (simp [errW_none, errW_some] <;> rfl) | (simp [*, errW_none, errW_some] <;> rfl), by repeat (first | (with_reducible first | exact HB.out | apply below_alloc | apply pw_below_drewN | apply below_drew1 | refine below_set ?_ GE559.out) | exact HB.out)⟩
end Go.Proofs.YtfonajakaimnoaaDoor.Lib

namespace Go.Proofs.YtfonajakaimnoaaDoor.Lib
open Go.RowKit Go.Proofs.YtfonajakaimnoaaDoorW.PrintWords Go.Proofs.YtfonajakaimnoaaDoorW.PrintLast Go.Proofs.YtfonajakaimnoaaDoorW.PrintMore
attribute [local go_sem] max2_int min2_int max_two min_two max_three min_three max_four min_four   -- for this text's walks alone
set_option linter.unusedVariables false
set_option linter.unusedSimpArgs false
def caesuraref14_Check.f (k : Nat) (a0_0 : Int) (l0_1 : List (List Int)) (l0_2 : List (List Int)) (a0_3 : Int) (l0_4 : List (List Int)) (l0_5 : List (List Int)) (l0_6 : List Bool) (a0_7 : Bool) (a1 : Int) : Option (Int) := (caesuraref12_Check.f k a0_0 l0_1 l0_2 a1 (l0_6.length : Int)).bind fun t568 => (if t568 = 0 then ((caesuraref12_Check.f k a0_3 l0_4 l0_5 a1 (l0_6.length : Int)).bind fun t569 => (some t569)) else (some t568))
set_option maxHeartbeats 8000000 in
set_option maxRecDepth 100000 in
theorem caesuraref14_Check.calls (k : Nat) (a0_0 : Int) (A0_1 : Option Addr) (c0_1 : Nat) (l0_1 : List (List Int)) (A0_2 : Option Addr) (c0_2 : Nat) (l0_2 : List (List Int)) (a0_3 : Int) (A0_4 : Option Addr) (c0_4 : Nat) (l0_4 : List (List Int)) (A0_5 : Option Addr) (c0_5 : Nat) (l0_5 : List (List Int)) (A0_6 : Option Addr) (c0_6 : Nat) (l0_6 : List Bool) (a0_7 : Bool) (a1 : Int) (r : Int) (w : World) (hr0_1 : Kd.C (Kd.slice 3 (Kd.int .i64)) w A0_1 l0_1.length l0_1) (hc0_1 : l0_1.length ≤ c0_1) (hr0_2 : Kd.C (Kd.slice 3 (Kd.int .i64)) w A0_2 l0_2.length l0_2) (hc0_2 : l0_2.length ≤ c0_2) (hr0_4 : Kd.C (Kd.slice 3 (Kd.int .i64)) w A0_4 l0_4.length l0_4) (hc0_4 : l0_4.length ≤ c0_4) (hr0_5 : Kd.C (Kd.slice 3 (Kd.int .i64)) w A0_5 l0_5.length l0_5) (hc0_5 : l0_5.length ≤ c0_5) (hr0_6 : Kd.C Kd.bool w A0_6 l0_6.length l0_6) (hc0_6 : l0_6.length ≤ c0_6) (h : caesuraref14_Check.f k a0_0 l0_1 l0_2 a0_3 l0_4 l0_5 l0_6 a0_7 a1 = some r) :
  Calls Tryd.prog 46 #[.agg #[.int .i64 a0_0, .slice A0_1 l0_1.length c0_1, .slice A0_2 l0_2.length c0_2, .int .i64 a0_3, .slice A0_4 l0_4.length c0_4, .slice A0_5 l0_5.length c0_5, .slice A0_6 l0_6.length c0_6, .bool a0_7], .int .i64 a1] w fun e w' => e = .returned (.int .i64 r) ∧ Below w.heap.size w w' := by
 have hu60 := Tryd.underlying60
 have hu24 := Tryd.underlying24
 have HR0_1 := Aside0.mk hr0_1
 have HC0_1 := Aside0.mk hc0_1
 clear hr0_1 hc0_1
 have HR0_2 := Aside0.mk hr0_2
 have HC0_2 := Aside0.mk hc0_2
 clear hr0_2 hc0_2
 have HR0_4 := Aside0.mk hr0_4
 have HC0_4 := Aside0.mk hc0_4
 clear hr0_4 hc0_4
 have HR0_5 := Aside0.mk hr0_5
 have HC0_5 := Aside0.mk hc0_5
 clear hr0_5 hc0_5
 have HR0_6 := Aside0.mk hr0_6
 have HC0_6 := Aside0.mk hc0_6
 clear hr0_6 hc0_6
 have HB := Aside0.mk (Below.refl w.heap.size w)
 have H : ((caesuraref12_Check.f k a0_0 l0_1 l0_2 a1 (l0_6.length : Int)).bind fun t568 => (if t568 = 0 then ((caesuraref12_Check.f k a0_3 l0_4 l0_5 a1 (l0_6.length : Int)).bind fun t569 => (some t569)) else (some t568))) = some r := h
 clear h
 replace H := Option.bind_eq_some_iff.mp H
 obtain ⟨t568, A30, H⟩ := H
 replace H : (if t568 = 0 then ((caesuraref12_Check.f k a0_3 l0_4 l0_5 a1 (l0_6.length : Int)).bind fun t569 => (some t569)) else (some t568)) = some r := H
 have A3 := Aside0.mk A30
 clear A30
 by_cases c4 : t568 = 0
 ·rw [if_pos c4] at H
  have c4b0 : (t568 == 0) = true := beq_iff_eq.mpr c4
  have c4b1 : (t568 != 0) = false := bne_eq_false_iff_eq.mpr c4
  clear c4
  replace H := Option.bind_eq_some_iff.mp H
  obtain ⟨t569, A50, H⟩ := H
  replace H : (some t569) = some r := H
  have A5 := Aside0.mk A50
  clear A50
  obtain rfl := Option.some.inj H
  go_enter Tryd.func46, Tryd.ntmps46
  go_wp2_with (first | ((with_reducible refine gate_dst (N := 2) rfl ?_); refine box_event ?hg (N := 2) ?hd (cs := #[.int .i64 a0_0, .slice A0_1 l0_1.length c0_1, .slice A0_2 l0_2.length c0_2, .int .i64 a0_3, .slice A0_4 l0_4.length c0_4, .slice A0_5 l0_5.length c0_5, .slice A0_6 l0_6.length c0_6, .bool a0_7]) (t := 60) ?hr ?_; (case hd => rfl); (case hg => rfl); (case hr => first | (go_simp; done) | (go_simp; rfl)); intro gb567 hg w6 hbox hb; have n0_ := Aside0.mk (below_step (by repeat (first | (with_reducible first | exact HB.out | apply below_alloc | apply pw_below_drewN | apply below_drew1) | exact HB.out)) hb); have n1_ := Aside0.mk (hbox); have n2_ := Aside0.mk ((by rw [hg]; exact (below_size (by repeat (first | (with_reducible first | exact HB.out | apply below_alloc | apply pw_below_drewN | apply below_drew1) | exact HB.out))) : w.heap.size ≤ gb567)); have n3_ := Aside0.mk ((by rw [hg]; exact (below_size (by repeat (first | (with_reducible first | exact HB.out | apply below_alloc | apply pw_below_drewN | apply below_drew1) | exact HB.out))) : w.heap.size ≤ gb567)); clear HB; have HB := n0_; have BK567 := n1_; have GW567 := n2_; have GE567 := n3_; clear n0_ n1_ n2_ n3_; clear hb hbox hg; have hcz7_0 : w6.cell? ⟨gb567, 0, none⟩ = some (.int .i64 a0_0) := (blk_cell BK567.out 0).trans rfl; have hcz7_1 : w6.cell? ⟨gb567, 1, none⟩ = some (.slice A0_1 l0_1.length c0_1) := (blk_cell BK567.out 1).trans rfl; have hcz7_2 : w6.cell? ⟨gb567, 2, none⟩ = some (.slice A0_2 l0_2.length c0_2) := (blk_cell BK567.out 2).trans rfl; have hcz7_3 : w6.cell? ⟨gb567, 3, none⟩ = some (.int .i64 a0_3) := (blk_cell BK567.out 3).trans rfl; have hcz7_4 : w6.cell? ⟨gb567, 4, none⟩ = some (.slice A0_4 l0_4.length c0_4) := (blk_cell BK567.out 4).trans rfl; have hcz7_5 : w6.cell? ⟨gb567, 5, none⟩ = some (.slice A0_5 l0_5.length c0_5) := (blk_cell BK567.out 5).trans rfl; have hcz7_6 : w6.cell? ⟨gb567, 6, none⟩ = some (.slice A0_6 l0_6.length c0_6) := (blk_cell BK567.out 6).trans rfl; have hcz7_7 : w6.cell? ⟨gb567, 7, none⟩ = some (.bool a0_7) := (blk_cell BK567.out 7).trans rfl; have hfz7_0 := blk_frozen BK567.out 0; have hfz7_1 := blk_frozen BK567.out 1; have hfz7_2 := blk_frozen BK567.out 2; have hfz7_3 := blk_frozen BK567.out 3; have hfz7_4 := blk_frozen BK567.out 4; have hfz7_5 := blk_frozen BK567.out 5; have hfz7_6 := blk_frozen BK567.out 6; have hfz7_7 := blk_frozen BK567.out 7) | ((with_reducible refine gate_callee (f := 102) rfl ?_); refine goesL_ (some 12) rfl rfl Tryd.func102 (by kernel_rfl) rfl #[.agg #[.int .i64 a0_0, .slice A0_1 l0_1.length c0_1, .slice A0_2 l0_2.length c0_2], .int .i64 a1, .int .i64 (l0_6.length : Int)] rfl (by (try simp only [List.map_toArray, List.map_cons, List.map_nil]); first | done | rfl | (simp only [List.length_drop, List.length_take]; rfl)) ?_; (with_reducible refine (caesuraref12_Check.calls k a0_0 _ _ l0_1 _ _ l0_2 a1 (l0_6.length : Int) t568 _ ?side1 ?side2 ?side3 ?side4 A3.out).mono ?_); (case side1 => repeat (first | exact (Kd.C_below HR0_1.out HB.out) | (with_reducible refine Kd.C_alloc ?_ _) | (with_reducible refine Kd.C_drewN ?_ _) | (with_reducible refine Kd.C_drew ?_))); (case side2 => exact HC0_1.out); (case side3 => repeat (first | exact (Kd.C_below HR0_2.out HB.out) | (with_reducible refine Kd.C_alloc ?_ _) | (with_reducible refine Kd.C_drewN ?_ _) | (with_reducible refine Kd.C_drew ?_))); (case side4 => exact HC0_2.out); rintro e w8 ⟨rfl, hb⟩; refine ⟨_, rfl, ?_⟩; have n0_ := Aside0.mk (blk_below (g := gb567) (o := .cells #[.int .i64 a0_0, .slice A0_1 l0_1.length c0_1, .slice A0_2 l0_2.length c0_2, .int .i64 a0_3, .slice A0_4 l0_4.length c0_4, .slice A0_5 l0_5.length c0_5, .slice A0_6 l0_6.length c0_6, .bool a0_7] 60 (0, 0)) (by (with_reducible repeat (first | refine blk_drewN ?_ _ | refine blk_drew ?_ | refine blk_alloc ?_ _)); exact BK567.out) hb); have n1_ := Aside0.mk (below_step (by repeat (first | (with_reducible first | exact HB.out | apply below_alloc | apply pw_below_drewN | apply below_drew1 | refine below_set ?_ GE567.out) | exact HB.out)) hb); clear BK567; clear HB; have BK567 := n0_; have HB := n1_; clear n0_ n1_; (try clear hb); (try clear hb2); (try clear hk); (try clear hi); have hcz9_0 : w8.cell? ⟨gb567, 0, none⟩ = some (.int .i64 a0_0) := (blk_cell BK567.out 0).trans rfl; have hcz9_1 : w8.cell? ⟨gb567, 1, none⟩ = some (.slice A0_1 l0_1.length c0_1) := (blk_cell BK567.out 1).trans rfl; have hcz9_2 : w8.cell? ⟨gb567, 2, none⟩ = some (.slice A0_2 l0_2.length c0_2) := (blk_cell BK567.out 2).trans rfl; have hcz9_3 : w8.cell? ⟨gb567, 3, none⟩ = some (.int .i64 a0_3) := (blk_cell BK567.out 3).trans rfl; have hcz9_4 : w8.cell? ⟨gb567, 4, none⟩ = some (.slice A0_4 l0_4.length c0_4) := (blk_cell BK567.out 4).trans rfl; have hcz9_5 : w8.cell? ⟨gb567, 5, none⟩ = some (.slice A0_5 l0_5.length c0_5) := (blk_cell BK567.out 5).trans rfl; have hcz9_6 : w8.cell? ⟨gb567, 6, none⟩ = some (.slice A0_6 l0_6.length c0_6) := (blk_cell BK567.out 6).trans rfl; have hcz9_7 : w8.cell? ⟨gb567, 7, none⟩ = some (.bool a0_7) := (blk_cell BK567.out 7).trans rfl; have hfz9_0 := blk_frozen BK567.out 0; have hfz9_1 := blk_frozen BK567.out 1; have hfz9_2 := blk_frozen BK567.out 2; have hfz9_3 := blk_frozen BK567.out 3; have hfz9_4 := blk_frozen BK567.out 4; have hfz9_5 := blk_frozen BK567.out 5; have hfz9_6 := blk_frozen BK567.out 6; have hfz9_7 := blk_frozen BK567.out 7) | ((with_reducible refine gate_callee (f := 102) rfl ?_); refine goesL_ (some 22) rfl rfl Tryd.func102 (by kernel_rfl) rfl #[.agg #[.int .i64 a0_3, .slice A0_4 l0_4.length c0_4, .slice A0_5 l0_5.length c0_5], .int .i64 a1, .int .i64 (l0_6.length : Int)] rfl (by (try simp only [List.map_toArray, List.map_cons, List.map_nil]); first | done | rfl | (simp only [List.length_drop, List.length_take]; rfl)) ?_; (with_reducible refine (caesuraref12_Check.calls k a0_3 _ _ l0_4 _ _ l0_5 a1 (l0_6.length : Int) t569 _ ?side1 ?side2 ?side3 ?side4 A5.out).mono ?_); (case side1 => repeat (first | exact (Kd.C_below HR0_4.out HB.out) | (with_reducible refine Kd.C_alloc ?_ _) | (with_reducible refine Kd.C_drewN ?_ _) | (with_reducible refine Kd.C_drew ?_))); (case side2 => exact HC0_4.out); (case side3 => repeat (first | exact (Kd.C_below HR0_5.out HB.out) | (with_reducible refine Kd.C_alloc ?_ _) | (with_reducible refine Kd.C_drewN ?_ _) | (with_reducible refine Kd.C_drew ?_))); (case side4 => exact HC0_5.out); rintro e w10 ⟨rfl, hb⟩; refine ⟨_, rfl, ?_⟩; have n0_ := Aside0.mk (blk_below (g := gb567) (o := .cells #[.int .i64 a0_0, .slice A0_1 l0_1.length c0_1, .slice A0_2 l0_2.length c0_2, .int .i64 a0_3, .slice A0_4 l0_4.length c0_4, .slice A0_5 l0_5.length c0_5, .slice A0_6 l0_6.length c0_6, .bool a0_7] 60 (0, 0)) (by (with_reducible repeat (first | refine blk_drewN ?_ _ | refine blk_drew ?_ | refine blk_alloc ?_ _)); exact BK567.out) hb); have n1_ := Aside0.mk (below_step (by repeat (first | (with_reducible first | exact HB.out | apply below_alloc | apply pw_below_drewN | apply below_drew1 | refine below_set ?_ GE567.out) | exact HB.out)) hb); clear BK567; clear HB; have BK567 := n0_; have HB := n1_; clear n0_ n1_; (try clear hb); (try clear hb2); (try clear hk); (try clear hi)))
  go_ret
  exact ⟨by first | rfl | (simp [errW_none, errW_some] <;> rfl) | (simp [*, errW_none, errW_some] <;> rfl), by repeat (first | (with_reducible first | exact HB.out | apply below_alloc | apply pw_below_drewN | apply below_drew1 | refine below_set ?_ GE567.out) | exact HB.out)⟩
 ·rw [if_neg c4] at H
  have c4b0 : (t568 == 0) = false := beq_eq_false_iff_ne.mpr c4
  have c4b1 : (t568 != 0) = true := bne_iff_ne.mpr c4
  obtain rfl := Option.some.inj H
  go_enter Tryd.func46, Tryd.ntmps46
  go_wp2_with (first | ((with_reducible refine gate_dst (N := 2) rfl ?_); refine box_event ?hg (N := 2) ?hd (cs := #[.int .i64 a0_0, .slice A0_1 l0_1.length c0_1, .slice A0_2 l0_2.length c0_2, .int .i64 a0_3, .slice A0_4 l0_4.length c0_4, .slice A0_5 l0_5.length c0_5, .slice A0_6 l0_6.length c0_6, .bool a0_7]) (t := 60) ?hr ?_; (case hd => rfl); (case hg => rfl); (case hr => first | (go_simp; done) | (go_simp; rfl)); intro gb567 hg w11 hbox hb; have n0_ := Aside0.mk (below_step (by repeat (first | (with_reducible first | exact HB.out | apply below_alloc | apply pw_below_drewN | apply below_drew1) | exact HB.out)) hb); have n1_ := Aside0.mk (hbox); have n2_ := Aside0.mk ((by rw [hg]; exact (below_size (by repeat (first | (with_reducible first | exact HB.out | apply below_alloc | apply pw_below_drewN | apply below_drew1) | exact HB.out))) : w.heap.size ≤ gb567)); have n3_ := Aside0.mk ((by rw [hg]; exact (below_size (by repeat (first | (with_reducible first | exact HB.out | apply below_alloc | apply pw_below_drewN | apply below_drew1) | exact HB.out))) : w.heap.size ≤ gb567)); clear HB; have HB := n0_; have BK567 := n1_; have GW567 := n2_; have GE567 := n3_; clear n0_ n1_ n2_ n3_; clear hb hbox hg; have hcz12_0 : w11.cell? ⟨gb567, 0, none⟩ = some (.int .i64 a0_0) := (blk_cell BK567.out 0).trans rfl; have hcz12_1 : w11.cell? ⟨gb567, 1, none⟩ = some (.slice A0_1 l0_1.length c0_1) := (blk_cell BK567.out 1).trans rfl; have hcz12_2 : w11.cell? ⟨gb567, 2, none⟩ = some (.slice A0_2 l0_2.length c0_2) := (blk_cell BK567.out 2).trans rfl; have hcz12_3 : w11.cell? ⟨gb567, 3, none⟩ = some (.int .i64 a0_3) := (blk_cell BK567.out 3).trans rfl; have hcz12_4 : w11.cell? ⟨gb567, 4, none⟩ = some (.slice A0_4 l0_4.length c0_4) := (blk_cell BK567.out 4).trans rfl; have hcz12_5 : w11.cell? ⟨gb567, 5, none⟩ = some (.slice A0_5 l0_5.length c0_5) := (blk_cell BK567.out 5).trans rfl; have hcz12_6 : w11.cell? ⟨gb567, 6, none⟩ = some (.slice A0_6 l0_6.length c0_6) := (blk_cell BK567.out 6).trans rfl; have hcz12_7 : w11.cell? ⟨gb567, 7, none⟩ = some (.bool a0_7) := (blk_cell BK567.out 7).trans rfl; have hfz12_0 := blk_frozen BK567.out 0; have hfz12_1 := blk_frozen BK567.out 1; have hfz12_2 := blk_frozen BK567.out 2; have hfz12_3 := blk_frozen BK567.out 3; have hfz12_4 := blk_frozen BK567.out 4; have hfz12_5 := blk_frozen BK567.out 5; have hfz12_6 := blk_frozen BK567.out 6; have hfz12_7 := blk_frozen BK567.out 7) | ((with_reducible refine gate_callee (f := 102) rfl ?_); refine goesL_ (some 12) rfl rfl Tryd.func102 (by kernel_rfl) rfl #[.agg #[.int .i64 a0_0, .slice A0_1 l0_1.length c0_1, .slice A0_2 l0_2.length c0_2], .int .i64 a1, .int .i64 (l0_6.length : Int)] rfl (by (try simp only [List.map_toArray, List.map_cons, List.map_nil]); first | done | rfl | (simp only [List.length_drop, List.length_take]; rfl)) ?_; (with_reducible refine (caesuraref12_Check.calls k a0_0 _ _ l0_1 _ _ l0_2 a1 (l0_6.length : Int) t568 _ ?side1 ?side2 ?side3 ?side4 A3.out).mono ?_); (case side1 => repeat (first | exact (Kd.C_below HR0_1.out HB.out) | (with_reducible refine Kd.C_alloc ?_ _) | (with_reducible refine Kd.C_drewN ?_ _) | (with_reducible refine Kd.C_drew ?_))); (case side2 => exact HC0_1.out); (case side3 => repeat (first | exact (Kd.C_below HR0_2.out HB.out) | (with_reducible refine Kd.C_alloc ?_ _) | (with_reducible refine Kd.C_drewN ?_ _) | (with_reducible refine Kd.C_drew ?_))); (case side4 => exact HC0_2.out); rintro e w13 ⟨rfl, hb⟩; refine ⟨_, rfl, ?_⟩; have n0_ := Aside0.mk (blk_below (g := gb567) (o := .cells #[.int .i64 a0_0, .slice A0_1 l0_1.length c0_1, .slice A0_2 l0_2.length c0_2, .int .i64 a0_3, .slice A0_4 l0_4.length c0_4, .slice A0_5 l0_5.length c0_5, .slice A0_6 l0_6.length c0_6, .bool a0_7] 60 (0, 0)) (by (with_reducible repeat (first | refine blk_drewN ?_ _ | refine blk_drew ?_ | refine blk_alloc ?_ _)); exact BK567.out) hb); have n1_ := Aside0.mk (below_step (by repeat (first | (with_reducible first | exact HB.out | apply below_alloc | apply pw_below_drewN | apply below_drew1 | refine below_set ?_ GE567.out) | exact HB.out)) hb); clear BK567; clear HB; have BK567 := n0_; have HB := n1_; clear n0_ n1_; (try clear hb); (try clear hb2); (try clear hk); (try clear hi)))
  go_ret
  exact ⟨by first | rfl | (simp [errW_none, errW_some] <;> rfl) | (simp [*, errW_none, errW_some] <;> rfl), by repeat (first | (with_reducible first | exact HB.out | apply below_alloc | apply pw_below_drewN | apply below_drew1 | refine below_set ?_ GE567.out) | exact HB.out)⟩
end Go.Proofs.YtfonajakaimnoaaDoor.Lib

namespace Go.Proofs.YtfonajakaimnoaaDoor.C14
open Go.RowKit Go.Proofs.YtfonajakaimnoaaDoorW.PrintWords Go.Proofs.YtfonajakaimnoaaDoorW.PrintLast Go.Proofs.YtfonajakaimnoaaDoorW.PrintMore Go.Proofs.YtfonajakaimnoaaDoor.Lib Lent Go.Proofs.YtfonajakaimnoaaDoor.Fn Go.Proofs.YtfonajakaimnoaaDoor.C11
set_option linter.unusedVariables false
set_option linter.unusedSimpArgs false
def inB (n : Nat) (x : Int) : Bool := !(decide (x < 0)) && !(decide (x ≥ (n : Int)))
def rowB (n : Nat) (sy pt : Int) (p : List Int × List Int) : Bool := decide ((p.1.length : Int) = sy) && (p.1.all (inB n) && risesB pt (-1) p.2)
def headB (s : Int) (N O : LL) (sy pt : Int) : Bool :=
 if sy < 1 then true else if sy > 16384 then true else if pt < 0 then true else if (N.length : Int) < 1 then true else if (N.length : Int) > 16384 then true else
  if (O.length : Int) = (N.length : Int) then (if wrap64 ((N.length : Int) * sy) > 4194304 then true else if s < 0 then true else decide (s ≥ (N.length : Int))) else true
def mokB (s : Int) (N O : LL) (sy pt : Int) : Bool := !headB s N O sy pt && (N.zip O).all (rowB N.length sy pt)
theorem row_at {L : LL} {i : Nat} (h : i < L.length) : rd_L1 L (i : Int) = L[i] := by
 unfold rd_L1
 rw [show ((i : Int)).toNat = i from rfl, List.getD_eq_getElem?_getD, List.getElem?_eq_getElem h]
 rfl
theorem wsucc {i n : Nat} (h : i < n) (hn : n ≤ 9223372036854775807) : wrap64 ((i : Int) + 1) = ((i + 1 : Nat) : Int) := by
 rw [wrap_succ (n := n) (by omega) (by omega) hn]
 omega
section
variable {s : Int} {N O : LL} {sy pt : Int}
theorem head_len (h : headB s N O sy pt = false) : O.length = N.length ∧ 1 ≤ N.length ∧ N.length ≤ 16384 ∧ 1 ≤ sy ∧ sy ≤ 16384 ∧ 0 ≤ pt ∧ 0 ≤ s ∧ s < N.length := by
 unfold headB at h
 split at h
 ·cases h
 split at h
 ·cases h
 split at h
 ·cases h
 split at h
 ·cases h
 split at h
 ·cases h
 split at h
 ·split at h
  ·cases h
  rename_i hw
  clear hw
  split at h
  ·cases h
  ·have := of_decide_eq_false h
   exact ⟨by omega, by omega, by omega, by omega, by omega, by omega, by omega, by omega⟩
 ·cases h
theorem m_l2 (i : Nat) (o : List Int) (ho : o.length ≤ 9223372036854775807) {X : Int} (hX : Ev (fun k => machine_Check.l0 k sy pt N.length N N.length (wrap64 ((i : Int) + 1)) s N O) X) :
  ∀ (d j : Nat) (last : Int), j ≤ o.length → o.length - j = d → Ev (fun k => machine_Check.l2 k sy pt N.length last N N.length i o o.length j s N O) (if risesB pt last (o.drop j) then X else 1) := by
 intro d
 induction d with
 | zero =>
  intro j last hj hd
  rw [List.drop_of_length_le (by omega)]
  refine Ev.step (fun k => ?_) hX
  conv => lhs; unfold machine_Check.l2
  rw [if_neg (by omega)]
 | succ d ih =>
  intro j last hj hd
  have hjl : j < o.length := by omega
  have hw := wsucc hjl ho
  have hnext := ih (j + 1) o[j] (by omega) (by omega)
  rw [← hw] at hnext
  clear hw
  have hr : risesB pt last (o.drop j) = (!decide (o[j] ≤ last) && (!decide (o[j] ≥ pt) && risesB pt o[j] (o.drop (j + 1)))) := by rw [List.drop_eq_getElem_cons hjl]; rfl
  by_cases h1 : o[j] ≤ last
  ·rw [show risesB pt last (o.drop j) = false by rw [hr, decide_eq_true h1]; rfl]
   refine Ev.step (f := fun _ => some 1) (fun k => ?_) (Ev.now _)
   conv => lhs; unfold machine_Check.l2
   rw [if_pos (by omega), if_pos (by omega), if_pos (by omega), rd_at o j hjl, if_pos h1]
  ·by_cases h2 : o[j] ≥ pt
   ·rw [show risesB pt last (o.drop j) = false by rw [hr, decide_eq_true h2, decide_eq_false h1]; rfl]
    refine Ev.step (f := fun _ => some 1) (fun k => ?_) (Ev.now _)
    conv => lhs; unfold machine_Check.l2
    rw [if_pos (by omega), if_pos (by omega), if_pos (by omega), rd_at o j hjl, if_neg h1, if_pos h2]
   ·rw [show risesB pt last (o.drop j) = risesB pt o[j] (o.drop (j + 1)) by rw [hr, decide_eq_false h2, decide_eq_false h1]; rfl]
    refine Ev.step (fun k => ?_) hnext
    conv => lhs; unfold machine_Check.l2
    rw [if_pos (by omega), if_pos (by omega), if_pos (by omega), rd_at o j hjl, if_neg h1, if_neg h2]
theorem m_l1 (i : Nat) (hi : i < N.length) (hiO : i < O.length) (hO : ∀ x ∈ O, x.length ≤ 9223372036854775807) (o : List Int) (ho : o.length ≤ 9223372036854775807) {X : Int}
  (hX : Ev (fun k => machine_Check.l0 k sy pt N.length N N.length (wrap64 ((i : Int) + 1)) s N O) X) :
  ∀ (d j : Nat), j ≤ o.length → o.length - j = d → Ev (fun k => machine_Check.l1 k sy pt N.length i N N.length i o o.length j s N O) (if (o.drop j).all (inB N.length) && risesB pt (-1) O[i] then X else 1) := by
 intro d
 induction d with
 | zero =>
  intro j hj hd
  have h2 := m_l2 i O[i] (hO _ (List.getElem_mem hiO)) hX O[i].length 0 (-1) (by omega) (by omega)
  rw [List.drop_zero] at h2
  rw [List.drop_of_length_le (show o.length ≤ j by omega), List.all_nil, Bool.true_and]
  refine Ev.step (fun k => ?_) h2
  conv => lhs; unfold machine_Check.l1
  rw [if_neg (by omega), if_pos (by omega), if_pos (by omega), row_at hiO]
  rfl
 | succ d ih =>
  intro j hj hd
  have hjl : j < o.length := by omega
  have hw := wsucc hjl ho
  have hnext := ih (j + 1) (by omega) (by omega)
  rw [← hw] at hnext
  rw [List.drop_eq_getElem_cons hjl, List.all_cons]
  clear hw
  by_cases h1 : o[j] < 0
  ·rw [show inB N.length o[j] = false by simp [inB, h1]]
   refine Ev.step (f := fun _ => some 1) (fun k => ?_) (Ev.now _)
   conv => lhs; unfold machine_Check.l1
   rw [if_pos (by omega), if_pos (by omega), if_pos (by omega), rd_at o j hjl, if_pos h1]
  ·by_cases h2 : o[j] ≥ (N.length : Int)
   ·rw [show inB N.length o[j] = false by simp [inB, h2]]
    refine Ev.step (f := fun _ => some 1) (fun k => ?_) (Ev.now _)
    conv => lhs; unfold machine_Check.l1
    rw [if_pos (by omega), if_pos (by omega), if_pos (by omega), rd_at o j hjl, if_neg h1, if_pos h2]
   ·rw [show inB N.length o[j] = true by simp [inB, h1, h2], Bool.true_and]
    refine Ev.step (fun k => ?_) hnext
    conv => lhs; unfold machine_Check.l1
    rw [if_pos (by omega), if_pos (by omega), if_pos (by omega), rd_at o j hjl, if_neg h1, if_neg h2]
theorem m_l0 (hNO : O.length = N.length) (hN : N.length ≤ 16384) (hNr : ∀ x ∈ N, x.length ≤ 9223372036854775807) (hO : ∀ x ∈ O, x.length ≤ 9223372036854775807) :
  ∀ (d i : Nat), i ≤ N.length → N.length - i = d → Ev (fun k => machine_Check.l0 k sy pt N.length N N.length i s N O) (if ((N.zip O).drop i).all (rowB N.length sy pt) then 0 else 1) := by
 intro d
 induction d with
 | zero =>
  intro i hi hd
  rw [List.drop_of_length_le (by simp; omega)]
  refine Ev.step (f := fun _ => some 0) (fun k => ?_) (Ev.now _)
  conv => lhs; unfold machine_Check.l0
  rw [if_neg (by omega)]
 | succ d ih =>
  intro i hi hd
  have hil : i < N.length := by omega
  have hiO : i < O.length := by omega
  have hz : i < (N.zip O).length := by simp; omega
  have hw := wsucc hil (by omega)
  have hnext := ih (i + 1) (by omega) (by omega)
  rw [← hw] at hnext
  clear hw
  have hq : ((N.zip O).drop i).all (rowB N.length sy pt) = (rowB N.length sy pt (N[i], O[i]) && ((N.zip O).drop (i + 1)).all (rowB N.length sy pt)) := by rw [List.drop_eq_getElem_cons hz, List.all_cons, List.getElem_zip]
  by_cases h1 : (N[i].length : Int) = sy
  ·have h3 := m_l1 i hil hiO hO N[i] (hNr _ (List.getElem_mem hil)) hnext N[i].length 0 (by omega) (by omega)
   rw [List.drop_zero] at h3
   have hr : rowB N.length sy pt (N[i], O[i]) = (N[i].all (inB N.length) && risesB pt (-1) O[i]) := by unfold rowB; rw [decide_eq_true h1, Bool.true_and]
   have h4 : (if (N[i].all (inB N.length) && risesB pt (-1) O[i]) = true then (if ((N.zip O).drop (i + 1)).all (rowB N.length sy pt) = true then (0 : Int) else 1) else 1) = if ((N.zip O).drop i).all (rowB N.length sy pt) = true then 0 else 1 := by
    rw [hq, hr]
    cases N[i].all (inB N.length) && risesB pt (-1) O[i] <;> rfl
   rw [h4] at h3
   refine Ev.step (fun k => ?_) h3
   conv => lhs; unfold machine_Check.l0
   rw [if_pos (by omega), if_pos (by omega), if_pos (by omega), row_at hil, if_pos h1]
   rfl
  ·rw [show ((N.zip O).drop i).all (rowB N.length sy pt) = false by rw [hq]; unfold rowB; rw [decide_eq_false h1]; rfl]
   refine Ev.step (f := fun _ => some 1) (fun k => ?_) (Ev.now _)
   conv => lhs; unfold machine_Check.l0
   rw [if_pos (by omega), if_pos (by omega), if_pos (by omega), row_at hil, if_neg h1]
theorem m_check_ev (hNr : ∀ x ∈ N, x.length ≤ 9223372036854775807) (hO : ∀ x ∈ O, x.length ≤ 9223372036854775807) :
  Ev (fun k => machine_Check.f k s N O sy pt) (if mokB s N O sy pt then 0 else 1) := by
 have hf : ∀ k, machine_Check.f k s N O sy pt = machine_Check.j0 k sy pt N.length (headB s N O sy pt) s N O := by
  intro k
  unfold machine_Check.f headB
  by_cases h1 : sy < 1
  ·rw [if_pos h1, if_pos h1]
  rw [if_neg h1, if_neg h1]
  by_cases h2 : sy > 16384
  ·rw [if_pos h2, if_pos h2]
  rw [if_neg h2, if_neg h2]
  by_cases h3 : pt < 0
  ·rw [if_pos h3, if_pos h3]
  rw [if_neg h3, if_neg h3]
  by_cases h4 : (N.length : Int) < 1
  ·rw [if_pos h4, if_pos h4]
  rw [if_neg h4, if_neg h4]
  by_cases h5 : (N.length : Int) > 16384
  ·rw [if_pos h5, if_pos h5]
  rw [if_neg h5, if_neg h5]
  by_cases h6 : (O.length : Int) = (N.length : Int)
  ·rw [if_pos h6, if_pos h6]
   by_cases h7 : wrap64 ((N.length : Int) * sy) > 4194304
   ·rw [if_pos h7, if_pos h7]
   rw [if_neg h7, if_neg h7]
   by_cases h8 : s < 0
   ·rw [if_pos h8, if_pos h8]
   rw [if_neg h8, if_neg h8]
  ·rw [if_neg h6, if_neg h6]
 refine Ev.congr hf ?_
 unfold mokB
 cases hh : headB s N O sy pt with
 | true =>
  refine Ev.step (f := fun _ => some 1) (fun k => ?_) (Ev.now _)
  rfl
 | false =>
  obtain ⟨e1, e2, e3, _⟩ := head_len hh
  have h0 := m_l0 (s := s) (sy := sy) (pt := pt) e1 e3 hNr hO N.length 0 (by omega) (by omega)
  rw [List.drop_zero] at h0
  refine Ev.step (fun k => ?_) h0
  rfl
theorem d_rises_ev (l : List Int) (hl : l.length ≤ 9223372036854775807) : Ev (fun k => caesuraref12_rises.f k l pt) (risesB pt (-1) l) := by
 have key : ∀ (d j : Nat) (last : Int), j ≤ l.length → l.length - j = d → Ev (fun k => caesuraref12_rises.l0 k l pt last j) (risesB pt last (l.drop j)) := by
  intro d
  induction d with
  | zero =>
   intro j last hj hd
   rw [List.drop_of_length_le (by omega)]
   refine Ev.step (f := fun _ => some true) (fun k => ?_) (Ev.now _)
   conv => lhs; unfold caesuraref12_rises.l0
   rw [if_neg (by omega)]
  | succ d ih =>
   intro j last hj hd
   have hjl : j < l.length := by omega
   have hw := wsucc hjl hl
   have hnext := ih (j + 1) l[j] (by omega) (by omega)
   rw [← hw] at hnext
   clear hw
   have hr : risesB pt last (l.drop j) = (!decide (l[j] ≤ last) && (!decide (l[j] ≥ pt) && risesB pt l[j] (l.drop (j + 1)))) := by rw [List.drop_eq_getElem_cons hjl]; rfl
   rw [hr]
   by_cases h1 : l[j] ≤ last
   ·rw [decide_eq_true h1]
    refine Ev.step (f := fun _ => some false) (fun k => ?_) (Ev.now _)
    conv => lhs; unfold caesuraref12_rises.l0
    rw [if_pos (by omega), if_pos (by omega), rd_at l j hjl, if_pos h1]
   ·rw [decide_eq_false h1]
    by_cases h2 : l[j] ≥ pt
    ·rw [decide_eq_true h2]
     refine Ev.step (f := fun _ => some false) (fun k => ?_) (Ev.now _)
     conv => lhs; unfold caesuraref12_rises.l0
     rw [if_pos (by omega), if_pos (by omega), rd_at l j hjl, if_neg h1, if_pos h2]
    ·rw [decide_eq_false h2]
     refine Ev.step (fun k => ?_) hnext
     conv => lhs; unfold caesuraref12_rises.l0
     rw [if_pos (by omega), if_pos (by omega), rd_at l j hjl, if_neg h1, if_neg h2]
 have := key l.length 0 (-1) (by omega) (by omega)
 exact this
theorem d_l1 (i : Nat) (hi : i < N.length) (hiO : i < O.length) (hO : ∀ x ∈ O, x.length ≤ 9223372036854775807) (hs : (N[i].length : Int) = sy) (ho : N[i].length ≤ 9223372036854775807) {X : Int}
  (hX : Ev (fun k => caesuraref12_Check.l0 k sy pt N.length (wrap64 ((i : Int) + 1)) s N O) X) :
  ∀ (d j : Nat), j ≤ N[i].length → N[i].length - j = d → Ev (fun k => caesuraref12_Check.l1 k sy pt N.length i j s N O) (if (N[i].drop j).all (inB N.length) && risesB pt (-1) O[i] then X else 1) := by
 intro d
 induction d with
 | zero =>
  intro j hj hd
  rw [List.drop_of_length_le (show N[i].length ≤ j by omega), List.all_nil, Bool.true_and]
  refine Ev.step (f := fun k => (caesuraref12_rises.f k O[i] pt).bind fun t566 => if t566 = true then caesuraref12_Check.l0 k sy pt N.length (wrap64 ((i : Int) + 1)) s N O else some 1) (fun k => ?_) (Ev.bind (d_rises_ev O[i] (hO _ (List.getElem_mem hiO))) ?_)
  ·conv => lhs; unfold caesuraref12_Check.l1
   rw [if_neg (by omega), if_pos (by omega), if_pos (by omega), row_at hiO]
  ·cases risesB pt (-1) O[i] with
   | true => exact Ev.congr (fun k => if_pos rfl) hX
   | false => exact Ev.congr (fun k => if_neg (by decide)) (Ev.now _)
 | succ d ih =>
  intro j hj hd
  have hjl : j < N[i].length := by omega
  have hw := wsucc hjl ho
  have hnext := ih (j + 1) (by omega) (by omega)
  rw [← hw] at hnext
  clear hw
  rw [List.drop_eq_getElem_cons hjl, List.all_cons]
  by_cases h1 : N[i][j] < 0
  ·rw [show inB N.length N[i][j] = false by simp [inB, h1]]
   refine Ev.step (f := fun _ => some 1) (fun k => ?_) (Ev.now _)
   conv => lhs; unfold caesuraref12_Check.l1
   rw [if_pos (by omega), if_pos (by omega), if_pos (by omega), row_at hi, if_pos (by omega), if_pos (by omega), rd_at N[i] j hjl, if_pos h1]
  ·by_cases h2 : N[i][j] ≥ (N.length : Int)
   ·rw [show inB N.length N[i][j] = false by simp [inB, h2]]
    refine Ev.step (f := fun _ => some 1) (fun k => ?_) (Ev.now _)
    conv => lhs; unfold caesuraref12_Check.l1
    rw [if_pos (by omega), if_pos (by omega), if_pos (by omega), row_at hi, if_pos (by omega), if_pos (by omega), rd_at N[i] j hjl, if_neg h1, if_pos h2]
   ·rw [show inB N.length N[i][j] = true by simp [inB, h1, h2], Bool.true_and]
    refine Ev.step (fun k => ?_) hnext
    conv => lhs; unfold caesuraref12_Check.l1
    rw [if_pos (by omega), if_pos (by omega), if_pos (by omega), row_at hi, if_pos (by omega), if_pos (by omega), rd_at N[i] j hjl, if_neg h1, if_neg h2]
theorem d_l0 (hNO : O.length = N.length) (hN : N.length ≤ 16384) (hNr : ∀ x ∈ N, x.length ≤ 9223372036854775807) (hO : ∀ x ∈ O, x.length ≤ 9223372036854775807) :
  ∀ (d i : Nat), i ≤ N.length → N.length - i = d → Ev (fun k => caesuraref12_Check.l0 k sy pt N.length i s N O) (if ((N.zip O).drop i).all (rowB N.length sy pt) then 0 else 1) := by
 intro d
 induction d with
 | zero =>
  intro i hi hd
  rw [List.drop_of_length_le (by simp; omega)]
  refine Ev.step (f := fun _ => some 0) (fun k => ?_) (Ev.now _)
  conv => lhs; unfold caesuraref12_Check.l0
  rw [if_neg (by omega)]
 | succ d ih =>
  intro i hi hd
  have hil : i < N.length := by omega
  have hiO : i < O.length := by omega
  have hz : i < (N.zip O).length := by simp; omega
  have hw := wsucc hil (by omega)
  have hnext := ih (i + 1) (by omega) (by omega)
  rw [← hw] at hnext
  clear hw
  have hq : ((N.zip O).drop i).all (rowB N.length sy pt) = (rowB N.length sy pt (N[i], O[i]) && ((N.zip O).drop (i + 1)).all (rowB N.length sy pt)) := by rw [List.drop_eq_getElem_cons hz, List.all_cons, List.getElem_zip]
  by_cases h1 : (N[i].length : Int) = sy
  ·have h3 := d_l1 i hil hiO hO h1 (hNr _ (List.getElem_mem hil)) hnext N[i].length 0 (by omega) (by omega)
   rw [List.drop_zero] at h3
   have hr : rowB N.length sy pt (N[i], O[i]) = (N[i].all (inB N.length) && risesB pt (-1) O[i]) := by unfold rowB; rw [decide_eq_true h1, Bool.true_and]
   have h4 : (if (N[i].all (inB N.length) && risesB pt (-1) O[i]) = true then (if ((N.zip O).drop (i + 1)).all (rowB N.length sy pt) = true then (0 : Int) else 1) else 1) = if ((N.zip O).drop i).all (rowB N.length sy pt) = true then 0 else 1 := by
    rw [hq, hr]
    cases N[i].all (inB N.length) && risesB pt (-1) O[i] <;> rfl
   rw [h4] at h3
   refine Ev.step (fun k => ?_) h3
   conv => lhs; unfold caesuraref12_Check.l0
   rw [if_pos (by omega), if_pos (by omega), if_pos (by omega), row_at hil, if_pos h1]
   rfl
  ·rw [show ((N.zip O).drop i).all (rowB N.length sy pt) = false by rw [hq]; unfold rowB; rw [decide_eq_false h1]; rfl]
   refine Ev.step (f := fun _ => some 1) (fun k => ?_) (Ev.now _)
   conv => lhs; unfold caesuraref12_Check.l0
   rw [if_pos (by omega), if_pos (by omega), if_pos (by omega), row_at hil, if_neg h1]
theorem d_check_ev (hNr : ∀ x ∈ N, x.length ≤ 9223372036854775807) (hO : ∀ x ∈ O, x.length ≤ 9223372036854775807) :
  Ev (fun k => caesuraref12_Check.f k s N O sy pt) (if mokB s N O sy pt then 0 else 1) := by
 have hf : ∀ k, caesuraref12_Check.f k s N O sy pt = caesuraref12_Check.j0 k sy pt N.length (headB s N O sy pt) s N O := by
  intro k
  unfold caesuraref12_Check.f headB
  by_cases h1 : sy < 1
  ·rw [if_pos h1, if_pos h1]
  rw [if_neg h1, if_neg h1]
  by_cases h2 : sy > 16384
  ·rw [if_pos h2, if_pos h2]
  rw [if_neg h2, if_neg h2]
  by_cases h3 : pt < 0
  ·rw [if_pos h3, if_pos h3]
  rw [if_neg h3, if_neg h3]
  by_cases h4 : (N.length : Int) < 1
  ·rw [if_pos h4, if_pos h4]
  rw [if_neg h4, if_neg h4]
  by_cases h5 : (N.length : Int) > 16384
  ·rw [if_pos h5, if_pos h5]
  rw [if_neg h5, if_neg h5]
  by_cases h6 : (O.length : Int) = (N.length : Int)
  ·rw [if_pos h6, if_pos h6]
   by_cases h7 : wrap64 ((N.length : Int) * sy) > 4194304
   ·rw [if_pos h7, if_pos h7]
   rw [if_neg h7, if_neg h7]
   by_cases h8 : s < 0
   ·rw [if_pos h8, if_pos h8]
   rw [if_neg h8, if_neg h8]
  ·rw [if_neg h6, if_neg h6]
 refine Ev.congr hf ?_
 unfold mokB
 cases hh : headB s N O sy pt with
 | true =>
  refine Ev.step (f := fun _ => some 1) (fun k => ?_) (Ev.now _)
  rfl
 | false =>
  obtain ⟨e1, e2, e3, _⟩ := head_len hh
  have h0 := d_l0 (s := s) (sy := sy) (pt := pt) e1 e3 hNr hO N.length 0 (by omega) (by omega)
  rw [List.drop_zero] at h0
  refine Ev.step (fun k => ?_) h0
  rfl
end
def pokB (s0 : Int) (N0 O0 : LL) (s1 : Int) (N1 O1 : LL) (B : List Bool) (sy : Int) : Bool := mokB s0 N0 O0 sy B.length && mokB s1 N1 O1 sy B.length
def symN (N : LL) : Int := if N.length = 0 then 0 else ((rd_L1 N 0).length : Int)
section
variable {s0 : Int} {N0 O0 : LL} {s1 : Int} {N1 O1 : LL} {B : List Bool} {b : Bool} {sy : Int} (h0 : ∀ x ∈ N0, x.length ≤ 9223372036854775807) (h1 : ∀ x ∈ O0, x.length ≤ 9223372036854775807) (h2 : ∀ x ∈ N1, x.length ≤ 9223372036854775807) (h3 : ∀ x ∈ O1, x.length ≤ 9223372036854775807)
include h0 h1 h2 h3
theorem p_check_ev : Ev (fun k => pair_Check.f k s0 N0 O0 s1 N1 O1 B b sy) (if pokB s0 N0 O0 s1 N1 O1 B sy then 0 else 1) := by
 unfold pokB pair_Check.f
 refine Ev.bind (m_check_ev h0 h1) ?_
 cases mokB s0 N0 O0 sy B.length with
 | false => exact Ev.congr (fun k => if_neg (by decide)) (Ev.now _)
 | true =>
  refine Ev.congr (fun k => if_pos rfl) (Ev.bind (m_check_ev h2 h3) ?_)
  rw [Bool.true_and]
  exact Ev.now _
theorem dp_check_ev : Ev (fun k => caesuraref14_Check.f k s0 N0 O0 s1 N1 O1 B b sy) (if pokB s0 N0 O0 s1 N1 O1 B sy then 0 else 1) := by
 unfold pokB caesuraref14_Check.f
 refine Ev.bind (d_check_ev h0 h1) ?_
 cases mokB s0 N0 O0 sy B.length with
 | false => exact Ev.congr (fun k => if_neg (by decide)) (Ev.now _)
 | true =>
  refine Ev.congr (fun k => if_pos rfl) (Ev.bind (d_check_ev h2 h3) ?_)
  rw [Bool.true_and]
  exact Ev.now _
end
end Go.Proofs.YtfonajakaimnoaaDoor.C14

namespace Go.Proofs.YtfonajakaimnoaaDoor.Lib
open Go.RowKit Go.Proofs.YtfonajakaimnoaaDoorW.PrintWords Go.Proofs.YtfonajakaimnoaaDoorW.PrintLast Go.Proofs.YtfonajakaimnoaaDoorW.PrintMore
theorem below_grow0 {B : Nat} {a w w1 : World} (h : Below B a w) (hB : B ≤ w.heap.size) (hg : w.grownBy w1 none) : Below B a w1 :=
 ⟨hg.os.trans h.os, hg.tape.trans h.tape, hg.output.trans h.output, Nat.le_trans h.size hg.size, fun k hk => (hg.block k (by omega) (by simp)).trans (h.block k hk)⟩
theorem make_room {P : Program} {W w0 : World} {ops : Array Oper} {rest : List Oper} {o : Oper} {a : Act} {Q : Exit → Act → World → Prop}
  (hg : o.guard = none) (l c : Operand) (t : TypeId) (hop : o.op = Op.makeSlice t l c)
  (base : Nat) (e : TypeId) (h1 : P.underlying t = some (.slice e)) (hi : (P.info? e).map (fun i => (i.zero, i.size, i.bytes)) = some (some (.int .i64 0), 1, 8))
  (kl kc : IntKind) (C : Int) (n : Nat) (hl : a.eval l = .int kl 0) (hc : a.eval c = .int kc C) (hC : C = (n : Int)) (b2 : 8 * n ≤ 281474976710656)
  (HB : Below base w0 W) (hb : base ≤ W.heap.size)
  (hK : ∀ w1, Kd.R (Kd.int .i64) e w1 base (fun _ => True) (.slice (some ⟨W.heap.size, 0, none⟩) 0 n) ([] : List Int) → Below base w0 w1 → W.grownBy w1 none → wpList P ops Q rest (a.put o.dst (.slice (some ⟨W.heap.size, 0, none⟩) 0 n)) w1) :
  wpList P ops Q (o :: rest) a W := by
 obtain ⟨i, hi1, hi2, hi3, hi4⟩ := info_parts hi
 refine wpList_make_own W hg l c t hop base e i (.int .i64 0) 1 h1 hi1 hi2 hi3 kl kc C n hl hc hC (by rw [hi4]; exact b2) (by simp only [maxLen]; omega) hb ?_
 intro w1 hown hgr
 exact hK w1 ⟨fun _ _ => trivial, [], hown, Reps.none _ _⟩ (below_grow0 HB hb hgr) hgr
end Go.Proofs.YtfonajakaimnoaaDoor.Lib

namespace Go.Proofs.YtfonajakaimnoaaDoor.Lib
open Go.RowKit Go.Proofs.YtfonajakaimnoaaDoorW.PrintWords Go.Proofs.YtfonajakaimnoaaDoorW.PrintLast Go.Proofs.YtfonajakaimnoaaDoorW.PrintMore
attribute [local go_sem] max2_int min2_int max_two min_two max_three min_three max_four min_four   -- for this text's walks alone
set_option linter.unusedVariables false
set_option linter.unusedSimpArgs false
mutual
def machine_Run.j0 : Nat → List Int → Int → Bool → Int → List (List Int) → List (List Int) → Option (List Int × Int)
 | 0, _, _, _, _, _, _ => none
 | k + 1, x1, x6, x20, x546000, x546001, x546002 => if x20 = true then (some (([] : List Int), 1)) else (if ([] : List Int).length < 17592186044416 then (machine_Run.l0 k x6 (([] : List Int) ++ [x6]) x1 (x1.length : Int) 0 x546000 x546001 x546002) else (none))
def machine_Run.l0 : Nat → Int → List Int → List Int → Int → Int → Int → List (List Int) → List (List Int) → Option (List Int × Int)
 | 0, _, _, _, _, _, _, _, _ => none
 | k + 1, x6, x7, x30, x31, x32, x546000, x546001, x546002 => if x32 < x31 then (if 0 ≤ x32 then (if x32 < (x30.length : Int) then (if (rd x30 x32) < 0 then (machine_Run.j2 k x6 x7 (rd x30 x32) x30 x31 x32 true x546000 x546001 x546002) else (if 0 ≤ x6 then (if x6 < (x546001.length : Int) then (machine_Run.j2 k x6 x7 (rd x30 x32) x30 x31 x32 (decide ((rd x30 x32) ≥ ((rd_L1 x546001 x6).length : Int))) x546000 x546001 x546002) else (none)) else (none))) else (none)) else (none)) else (some (x7, 0))
def machine_Run.j2 : Nat → Int → List Int → Int → List Int → Int → Int → Bool → Int → List (List Int) → List (List Int) → Option (List Int × Int)
 | 0, _, _, _, _, _, _, _, _, _, _ => none
 | k + 1, x6, x7, x9, x30, x31, x32, x47, x546000, x546001, x546002 => if x47 = true then (some (([] : List Int), 1)) else (if 0 ≤ x6 then (if x6 < (x546001.length : Int) then (if 0 ≤ x9 then (if x9 < ((rd_L1 x546001 x6).length : Int) then (if (rd (rd_L1 x546001 x6) x9) < 0 then (some (([] : List Int), 1)) else (if (rd (rd_L1 x546001 x6) x9) ≥ (x546001.length : Int) then (some (([] : List Int), 1)) else (if x7.length < 17592186044416 then (machine_Run.l0 k (rd (rd_L1 x546001 x6) x9) (x7 ++ [rd (rd_L1 x546001 x6) x9]) x30 x31 (wrap64 (x32 + 1)) x546000 x546001 x546002) else (none)))) else (none)) else (none)) else (none)) else (none))
end
def machine_Run.f (k : Nat) (a0_0 : Int) (l0_1 : List (List Int)) (l0_2 : List (List Int)) (l1 : List Int) : Option (List Int × Int) := if a0_0 < 0 then (machine_Run.j0 k l1 a0_0 true a0_0 l0_1 l0_2) else (machine_Run.j0 k l1 a0_0 (decide (a0_0 ≥ (l0_1.length : Int))) a0_0 l0_1 l0_2)
set_option maxHeartbeats 8000000 in
set_option maxRecDepth 100000 in
theorem machine_Run.calls (k : Nat) (a0_0 : Int) (A0_1 : Option Addr) (c0_1 : Nat) (l0_1 : List (List Int)) (A0_2 : Option Addr) (c0_2 : Nat) (l0_2 : List (List Int)) (A1 : Option Addr) (c1 : Nat) (l1 : List Int) (r1 : List Int) (r2 : Int) (eA : Value) (w : World) (hA : w.cell? ⟨0, 0, none⟩ = some eA) (hl1 : l1.length ≤ 17592186044400) (hr0_1 : Kd.C (Kd.slice 3 (Kd.int .i64)) w A0_1 l0_1.length l0_1) (hc0_1 : l0_1.length ≤ c0_1) (hr0_2 : Kd.C (Kd.slice 3 (Kd.int .i64)) w A0_2 l0_2.length l0_2) (hc0_2 : l0_2.length ≤ c0_2) (hr1 : Kd.C (Kd.int .i64) w A1 l1.length l1) (hc1 : l1.length ≤ c1) (h : machine_Run.f k a0_0 l0_1 l0_2 l1 = some (r1, r2)) :
  Calls Tryd.prog 94 #[.agg #[.int .i64 a0_0, .slice A0_1 l0_1.length c0_1, .slice A0_2 l0_2.length c0_2], .slice A1 l1.length c1] w fun e w' => ∃ v0_ : Value, e = .returned (.tuple #[v0_, errI eA r2]) ∧ Kd.R (Kd.int .i64) 3 w' w.heap.size (fun _ => True) v0_ r1 ∧ Below w.heap.size w w' := by
 have HAll : Aside0 (∀ W, Below w.heap.size w W → W.cell? ⟨0, 0, none⟩ = some eA) := ⟨fun W hb => pw_cell_below hb hA⟩
 have HL1 := Aside0.mk hl1
 clear hA hl1
 have hu24 := Tryd.underlying24
 have HR0_1 := Aside0.mk hr0_1
 have HC0_1 := Aside0.mk hc0_1
 clear hr0_1 hc0_1
 have HR0_2 := Aside0.mk hr0_2
 have HC0_2 := Aside0.mk hc0_2
 clear hr0_2 hc0_2
 have HR1 := Aside0.mk hr1
 have HC1 := Aside0.mk hc1
 clear hr1 hc1
 have HB := Aside0.mk (Below.refl w.heap.size w)
 have H : (if a0_0 < 0 then (machine_Run.j0 k l1 a0_0 true a0_0 l0_1 l0_2) else (machine_Run.j0 k l1 a0_0 (decide (a0_0 ≥ (l0_1.length : Int))) a0_0 l0_1 l0_2)) = some (r1, r2) := h
 clear h
 have HC3 := Aside0.mk H
 clear H
 go_enter Tryd.func94, Tryd.ntmps94
 go_upto_region 2 with (first | ((with_reducible refine gate_dst (N := 2) rfl ?_); (try (refine gate_guard (by rfl) ?_; dsimp only)); refine box_event ?hg (N := 2) ?hd (cs := #[.int .i64 a0_0, .slice A0_1 l0_1.length c0_1, .slice A0_2 l0_2.length c0_2]) (t := 24) ?hr ?_; (case hd => rfl); (case hg => rfl); (case hr => first | (go_simp; done) | (go_simp; rfl)); intro gb545 hg w4 hbox hb; have n0_ := Aside0.mk (below_step (by repeat (first | (with_reducible first | exact HB.out | apply below_alloc | apply pw_below_drewN | apply below_drew1) | exact HB.out)) hb); have n1_ := Aside0.mk (hbox); have n2_ := Aside0.mk ((by rw [hg]; exact (below_size (by repeat (first | (with_reducible first | exact HB.out | apply below_alloc | apply pw_below_drewN | apply below_drew1) | exact HB.out))) : w.heap.size ≤ gb545)); have n3_ := Aside0.mk ((by rw [hg]; exact (below_size (by repeat (first | (with_reducible first | exact HB.out | apply below_alloc | apply pw_below_drewN | apply below_drew1) | exact HB.out))) : w.heap.size ≤ gb545)); clear HB; have HB := n0_; have BK545 := n1_; have GW545 := n2_; have GE545 := n3_; clear n0_ n1_ n2_ n3_; clear hb hbox hg; have hcz5_0 : w4.cell? ⟨gb545, 0, none⟩ = some (.int .i64 a0_0) := (blk_cell BK545.out 0).trans rfl; have hcz5_1 : w4.cell? ⟨gb545, 1, none⟩ = some (.slice A0_1 l0_1.length c0_1) := (blk_cell BK545.out 1).trans rfl; have hcz5_2 : w4.cell? ⟨gb545, 2, none⟩ = some (.slice A0_2 l0_2.length c0_2) := (blk_cell BK545.out 2).trans rfl; have hfz5_0 := blk_frozen BK545.out 0; have hfz5_1 := blk_frozen BK545.out 1; have hfz5_2 := blk_frozen BK545.out 2))
 repeat (go_quiet (first | ((with_reducible refine gate_dst (N := 2) rfl ?_); (try (refine gate_guard (by rfl) ?_; dsimp only)); refine box_event ?hg (N := 2) ?hd (cs := #[.int .i64 a0_0, .slice A0_1 l0_1.length c0_1, .slice A0_2 l0_2.length c0_2]) (t := 24) ?hr ?_; (case hd => rfl); (case hg => rfl); (case hr => first | (go_simp; done) | (go_simp; rfl)); intro gb545 hg w4 hbox hb; have n0_ := Aside0.mk (below_step (by repeat (first | (with_reducible first | exact HB.out | apply below_alloc | apply pw_below_drewN | apply below_drew1) | exact HB.out)) hb); have n1_ := Aside0.mk (hbox); have n2_ := Aside0.mk ((by rw [hg]; exact (below_size (by repeat (first | (with_reducible first | exact HB.out | apply below_alloc | apply pw_below_drewN | apply below_drew1) | exact HB.out))) : w.heap.size ≤ gb545)); have n3_ := Aside0.mk ((by rw [hg]; exact (below_size (by repeat (first | (with_reducible first | exact HB.out | apply below_alloc | apply pw_below_drewN | apply below_drew1) | exact HB.out))) : w.heap.size ≤ gb545)); clear HB; have HB := n0_; have BK545 := n1_; have GW545 := n2_; have GE545 := n3_; clear n0_ n1_ n2_ n3_; clear hb hbox hg; have hcz5_0 : w4.cell? ⟨gb545, 0, none⟩ = some (.int .i64 a0_0) := (blk_cell BK545.out 0).trans rfl; have hcz5_1 : w4.cell? ⟨gb545, 1, none⟩ = some (.slice A0_1 l0_1.length c0_1) := (blk_cell BK545.out 1).trans rfl; have hcz5_2 : w4.cell? ⟨gb545, 2, none⟩ = some (.slice A0_2 l0_2.length c0_2) := (blk_cell BK545.out 2).trans rfl; have hfz5_0 := blk_frozen BK545.out 0; have hfz5_1 := blk_frozen BK545.out 1; have hfz5_2 := blk_frozen BK545.out 2)); go_upto_region 2 with (first | ((with_reducible refine gate_dst (N := 2) rfl ?_); (try (refine gate_guard (by rfl) ?_; dsimp only)); refine box_event ?hg (N := 2) ?hd (cs := #[.int .i64 a0_0, .slice A0_1 l0_1.length c0_1, .slice A0_2 l0_2.length c0_2]) (t := 24) ?hr ?_; (case hd => rfl); (case hg => rfl); (case hr => first | (go_simp; done) | (go_simp; rfl)); intro gb545 hg w4 hbox hb; have n0_ := Aside0.mk (below_step (by repeat (first | (with_reducible first | exact HB.out | apply below_alloc | apply pw_below_drewN | apply below_drew1) | exact HB.out)) hb); have n1_ := Aside0.mk (hbox); have n2_ := Aside0.mk ((by rw [hg]; exact (below_size (by repeat (first | (with_reducible first | exact HB.out | apply below_alloc | apply pw_below_drewN | apply below_drew1) | exact HB.out))) : w.heap.size ≤ gb545)); have n3_ := Aside0.mk ((by rw [hg]; exact (below_size (by repeat (first | (with_reducible first | exact HB.out | apply below_alloc | apply pw_below_drewN | apply below_drew1) | exact HB.out))) : w.heap.size ≤ gb545)); clear HB; have HB := n0_; have BK545 := n1_; have GW545 := n2_; have GE545 := n3_; clear n0_ n1_ n2_ n3_; clear hb hbox hg; have hcz5_0 : w4.cell? ⟨gb545, 0, none⟩ = some (.int .i64 a0_0) := (blk_cell BK545.out 0).trans rfl; have hcz5_1 : w4.cell? ⟨gb545, 1, none⟩ = some (.slice A0_1 l0_1.length c0_1) := (blk_cell BK545.out 1).trans rfl; have hcz5_2 : w4.cell? ⟨gb545, 2, none⟩ = some (.slice A0_2 l0_2.length c0_2) := (blk_cell BK545.out 2).trans rfl; have hfz5_0 := blk_frozen BK545.out 0; have hfz5_1 := blk_frozen BK545.out 1; have hfz5_2 := blk_frozen BK545.out 2)))
 (try simp only [Act.put, List.setIfInBounds_toArray, List.set_cons_zero, List.set_cons_succ])
 go_cut [20] (fun v20 wc => ∃ (kq : Nat) (x20_2 : Bool), v20 = .bool x20_2 ∧ Aside0 (machine_Run.j0 kq l1 a0_0 x20_2 a0_0 l0_1 l0_2 = some (r1, r2)) ∧ Aside0 (kq ≤ k) ∧ Aside0 (wc.heap[gb545]? = some (.cells #[.int .i64 a0_0, (.slice A0_1 l0_1.length c0_1), (.slice A0_2 l0_2.length c0_2)] 24 (0, 0))) ∧ Aside0 (Below w.heap.size w wc))
 case first =>
  have H := HC3.out
  clear HC3
  by_cases c6 : a0_0 < 0
  ·rw [if_pos c6] at H
   have c6b0 : decide (a0_0 < 0) = true := decide_eq_true c6
   clear c6
   (first | rw [c6b0] | (simp only [i64_w, i32_w]; rw [c6b0]) | skip)
   have H' := Aside0.mk H
   clear H
   go_wp2
   repeat (go_quiet (fail); try go_wp2)
   go_meet
   case rel => exact ⟨_, (true), (by first | rfl | (simp; done) | (simp [*]; done)), H', ⟨by first | omega | exact Nat.le_refl _⟩, ⟨by (with_reducible repeat (first | refine blk_drewN ?_ _ | refine blk_drew ?_ | refine blk_alloc ?_ _)); exact BK545.out⟩, ⟨by repeat (first | (with_reducible first | exact HB.out | apply below_alloc | apply pw_below_drewN | apply below_drew1 | refine below_set ?_ GE545.out) | exact HB.out)⟩⟩
  ·rw [if_neg c6] at H
   have c6b0 : decide (a0_0 < 0) = false := decide_eq_false c6
   clear c6
   (first | rw [c6b0] | (simp only [i64_w, i32_w]; rw [c6b0]) | skip)
   have H' := Aside0.mk H
   clear H
   have hcz7_0 : w4.cell? ⟨gb545, 0, none⟩ = some (.int .i64 a0_0) := (blk_cell BK545.out 0).trans rfl
   have hcz7_1 : w4.cell? ⟨gb545, 1, none⟩ = some (.slice A0_1 l0_1.length c0_1) := (blk_cell BK545.out 1).trans rfl
   have hcz7_2 : w4.cell? ⟨gb545, 2, none⟩ = some (.slice A0_2 l0_2.length c0_2) := (blk_cell BK545.out 2).trans rfl
   have hfz7_0 := blk_frozen BK545.out 0
   have hfz7_1 := blk_frozen BK545.out 1
   have hfz7_2 := blk_frozen BK545.out 2
   go_wp2
   repeat (go_quiet (fail); try go_wp2)
   go_meet
   case rel => exact ⟨_, (decide (a0_0 ≥ (l0_1.length : Int))), (by first | rfl | (simp; done) | (simp [*]; done)), H', ⟨by first | omega | exact Nat.le_refl _⟩, ⟨by (with_reducible repeat (first | refine blk_drewN ?_ _ | refine blk_drew ?_ | refine blk_alloc ?_ _)); exact BK545.out⟩, ⟨by repeat (first | (with_reducible first | exact HB.out | apply below_alloc | apply pw_below_drewN | apply below_drew1 | refine below_set ?_ GE545.out) | exact HB.out)⟩⟩
 case rest =>
  clear HC3
  try clear c1
  try clear p2
  try clear c6
  try clear c6b0
  try clear hcz5_0
  try clear hcz5_1
  try clear hcz5_2
  try clear hcz7_0
  try clear hcz7_1
  try clear hcz7_2
  try clear hfz5_0
  try clear hfz5_1
  try clear hfz5_2
  try clear hfz7_0
  try clear hfz7_1
  try clear hfz7_2
  obtain ⟨kq, x20_2, rfl, HA, HJ2, BK545, HB⟩ := hcut
  cases kq with
  | zero => exact absurd HA.out (by simp [machine_Run.j0])
  | succ kj2 =>
   have H := HA.out
   clear HA
   simp only [machine_Run.j0] at H
   by_cases c8 : x20_2 = true
   ·subst c8
    have H1 : (some (([] : List Int), 1)) = some (r1, r2) := by rw [if_pos rfl] at H; exact H
    clear H
    have H := H1
    clear H1
    simp only [Option.some.injEq, Prod.mk.injEq] at H
    obtain ⟨rfl, rfl⟩ := H
    have hAq := HAll.out _ HB.out
    go_wp2
    repeat (go_quiet (fail); try go_wp2)
    go_ret2
    exact ⟨_, by first | rfl | (simp [errW_none, errW_some] <;> rfl) | (simp [*, errW_none, errW_some] <;> rfl), by first | exact Kd.R_nil _ _ _ _ _ | exact Kd.N_nil _ _ _ _ _ | exact Kd.V_nil _ _ _ _ _ | exact Kd.Q_nil _ _ _ _ _ | exact Kd.S_nil _ _ _ _ _, by repeat (first | (with_reducible first | exact HB.out | apply below_alloc | apply pw_below_drewN | apply below_drew1 | refine below_set ?_ GE545.out) | exact HB.out)⟩
   ·replace c8 := Bool.eq_false_iff.mpr c8
    subst c8
    have H1 : (if ([] : List Int).length < 17592186044416 then (machine_Run.l0 kj2 a0_0 (([] : List Int) ++ [a0_0]) l1 (l1.length : Int) 0 a0_0 l0_1 l0_2) else (none)) = some (r1, r2) := by rw [if_neg (show ¬ (false = true) by decide)] at H; exact H
    clear H
    have H := H1
    clear H1
    by_cases c9 : ([] : List Int).length < 17592186044416
    ·rw [if_pos c9] at H
     have LMc9 := Aside0.mk c9
     clear c9
     obtain ⟨y546, hy546⟩ : ∃ y_ : List Int, y_ = (([] : List Int) ++ [a0_0]) := ⟨_, rfl⟩
     replace H : (machine_Run.l0 kj2 a0_0 y546 l1 (l1.length : Int) 0 a0_0 l0_1 l0_2) = some (r1, r2) := by first | (rw [hy546]; with_reducible exact H) | (have H2_ := (Option.bind_some _ _).symm.trans H; rw [hy546]; with_reducible exact H2_) | (have H2_ := (Option.bind_some _ _).symm.trans H; with_reducible exact H2_) | with_reducible exact H | (rw [hy546]; exact H) | exact H
     have Ny546 := Aside0.mk hy546
     clear hy546
     have H' := Aside0.mk H
     clear H
     go_wp2_with (first | (at_make; refine make_room (w0 := w) rfl (.const (.int .i64 0)) (.tmp 24) 25 rfl w.heap.size 3 Tryd.underlying25 info3 .i64 .i64 _ (l1.length + 1) rfl rfl ?mC ?mb ?mB ?mS ?_; (case mC => have := HL1.out; first | omega | (simp only [wrap64]; omega) | (simp [wrap64]; omega)); (case mb => have := HL1.out; omega); (case mB => exact (by repeat (first | (with_reducible first | exact HB.out | apply below_alloc | apply pw_below_drewN | apply below_drew1 | refine below_set ?_ GE545.out) | exact HB.out))); (case mS => exact (below_size (by repeat (first | (with_reducible first | exact HB.out | apply below_alloc | apply pw_below_drewN | apply below_drew1 | refine below_set ?_ GE545.out) | exact HB.out)))); intro wm hom hbm hgm; have n0_ := Aside0.mk (blk_grown (by (with_reducible repeat (first | refine blk_drewN ?_ _ | refine blk_drew ?_ | refine blk_alloc ?_ _)); exact BK545.out) hgm (by simp)); have HNm := Aside0.mk (Nat.ne_of_lt (blk_lt (by (with_reducible repeat (first | refine blk_drewN ?_ _ | refine blk_drew ?_ | refine blk_alloc ?_ _)); exact BK545.out))); have n1_ := Aside0.mk hbm; have HOm := Aside0.mk hom; clear BK545; clear HB; have BK545 := n0_; have HB := n1_; clear n0_ n1_; clear hom hbm hgm) | ((with_reducible refine gate_builtin (b := .append) (xs := #[.tmp 26, .tmp 28]) rfl ?_); (try (refine gate_guard (by rfl) ?_; dsimp only)); at_builtin; refine Kd.R_append (Kd.int .i64) (w0 := w) w.heap.size rfl (.tmp 26) (.tmp 28) 25 3 (.int .i64 0) 8 rfl Tryd.underlying25 info3 rfl (by decide) (by omega) _ ([] : List Int) a0_0 [.int .i64 a0_0] (fun _ => True) (fun _ => False) rfl rfl ?aP (fun _ hk => hk.elim) ?aF ?aO ?aB ?aS ?aL ?_; (case aP => exact rfl); (case aB => exact (by repeat (first | (with_reducible first | exact HB.out | apply below_alloc | apply pw_below_drewN | apply below_drew1 | refine below_set ?_ GE545.out) | exact HB.out))); (case aF => exact (fun _ _ => trivial)); (case aO => exact HOm.out); (case aS => exact (below_size (by repeat (first | (with_reducible first | exact HB.out | apply below_alloc | apply pw_below_drewN | apply below_drew1 | refine below_set ?_ GE545.out) | exact HB.out)))); (case aL => have := LMc9.out; omega); intro v547 w10 ho hb hg hat; rw [← Ny546.out] at ho; have n0_ := Aside0.mk (blk_grown (g := gb545) (o := .cells #[.int .i64 a0_0, .slice A0_1 l0_1.length c0_1, .slice A0_2 l0_2.length c0_2] 24 (0, 0)) (by (with_reducible repeat (first | refine blk_drewN ?_ _ | refine blk_drew ?_ | refine blk_alloc ?_ _)); exact BK545.out) hg (fun h => HNm.out (Option.some.inj h))); have n1_ := Aside0.mk (hb); have n2_ := Aside0.mk (ho); clear BK545; clear HB; have BK545 := n0_; have HB := n1_; have HO548 := n2_; clear n0_ n1_ n2_; clear ho hb hg hat))
     repeat (go_quiet (first | (at_make; refine make_room (w0 := w) rfl (.const (.int .i64 0)) (.tmp 24) 25 rfl w.heap.size 3 Tryd.underlying25 info3 .i64 .i64 _ (l1.length + 1) rfl rfl ?mC ?mb ?mB ?mS ?_; (case mC => have := HL1.out; first | omega | (simp only [wrap64]; omega) | (simp [wrap64]; omega)); (case mb => have := HL1.out; omega); (case mB => exact (by repeat (first | (with_reducible first | exact HB.out | apply below_alloc | apply pw_below_drewN | apply below_drew1 | refine below_set ?_ GE545.out) | exact HB.out))); (case mS => exact (below_size (by repeat (first | (with_reducible first | exact HB.out | apply below_alloc | apply pw_below_drewN | apply below_drew1 | refine below_set ?_ GE545.out) | exact HB.out)))); intro wm hom hbm hgm; have n0_ := Aside0.mk (blk_grown (by (with_reducible repeat (first | refine blk_drewN ?_ _ | refine blk_drew ?_ | refine blk_alloc ?_ _)); exact BK545.out) hgm (by simp)); have HNm := Aside0.mk (Nat.ne_of_lt (blk_lt (by (with_reducible repeat (first | refine blk_drewN ?_ _ | refine blk_drew ?_ | refine blk_alloc ?_ _)); exact BK545.out))); have n1_ := Aside0.mk hbm; have HOm := Aside0.mk hom; clear BK545; clear HB; have BK545 := n0_; have HB := n1_; clear n0_ n1_; clear hom hbm hgm) | ((with_reducible refine gate_builtin (b := .append) (xs := #[.tmp 26, .tmp 28]) rfl ?_); (try (refine gate_guard (by rfl) ?_; dsimp only)); at_builtin; refine Kd.R_append (Kd.int .i64) (w0 := w) w.heap.size rfl (.tmp 26) (.tmp 28) 25 3 (.int .i64 0) 8 rfl Tryd.underlying25 info3 rfl (by decide) (by omega) _ ([] : List Int) a0_0 [.int .i64 a0_0] (fun _ => True) (fun _ => False) rfl rfl ?aP (fun _ hk => hk.elim) ?aF ?aO ?aB ?aS ?aL ?_; (case aP => exact rfl); (case aB => exact (by repeat (first | (with_reducible first | exact HB.out | apply below_alloc | apply pw_below_drewN | apply below_drew1 | refine below_set ?_ GE545.out) | exact HB.out))); (case aF => exact (fun _ _ => trivial)); (case aO => exact HOm.out); (case aS => exact (below_size (by repeat (first | (with_reducible first | exact HB.out | apply below_alloc | apply pw_below_drewN | apply below_drew1 | refine below_set ?_ GE545.out) | exact HB.out)))); (case aL => have := LMc9.out; omega); intro v547 w10 ho hb hg hat; rw [← Ny546.out] at ho; have n0_ := Aside0.mk (blk_grown (g := gb545) (o := .cells #[.int .i64 a0_0, .slice A0_1 l0_1.length c0_1, .slice A0_2 l0_2.length c0_2] 24 (0, 0)) (by (with_reducible repeat (first | refine blk_drewN ?_ _ | refine blk_drew ?_ | refine blk_alloc ?_ _)); exact BK545.out) hg (fun h => HNm.out (Option.some.inj h))); have n1_ := Aside0.mk (hb); have n2_ := Aside0.mk (ho); clear BK545; clear HB; have BK545 := n0_; have HB := n1_; have HO548 := n2_; clear n0_ n1_ n2_; clear ho hb hg hat)); try go_wp2_with (first | (at_make; refine make_room (w0 := w) rfl (.const (.int .i64 0)) (.tmp 24) 25 rfl w.heap.size 3 Tryd.underlying25 info3 .i64 .i64 _ (l1.length + 1) rfl rfl ?mC ?mb ?mB ?mS ?_; (case mC => have := HL1.out; first | omega | (simp only [wrap64]; omega) | (simp [wrap64]; omega)); (case mb => have := HL1.out; omega); (case mB => exact (by repeat (first | (with_reducible first | exact HB.out | apply below_alloc | apply pw_below_drewN | apply below_drew1 | refine below_set ?_ GE545.out) | exact HB.out))); (case mS => exact (below_size (by repeat (first | (with_reducible first | exact HB.out | apply below_alloc | apply pw_below_drewN | apply below_drew1 | refine below_set ?_ GE545.out) | exact HB.out)))); intro wm hom hbm hgm; have n0_ := Aside0.mk (blk_grown (by (with_reducible repeat (first | refine blk_drewN ?_ _ | refine blk_drew ?_ | refine blk_alloc ?_ _)); exact BK545.out) hgm (by simp)); have HNm := Aside0.mk (Nat.ne_of_lt (blk_lt (by (with_reducible repeat (first | refine blk_drewN ?_ _ | refine blk_drew ?_ | refine blk_alloc ?_ _)); exact BK545.out))); have n1_ := Aside0.mk hbm; have HOm := Aside0.mk hom; clear BK545; clear HB; have BK545 := n0_; have HB := n1_; clear n0_ n1_; clear hom hbm hgm) | ((with_reducible refine gate_builtin (b := .append) (xs := #[.tmp 26, .tmp 28]) rfl ?_); (try (refine gate_guard (by rfl) ?_; dsimp only)); at_builtin; refine Kd.R_append (Kd.int .i64) (w0 := w) w.heap.size rfl (.tmp 26) (.tmp 28) 25 3 (.int .i64 0) 8 rfl Tryd.underlying25 info3 rfl (by decide) (by omega) _ ([] : List Int) a0_0 [.int .i64 a0_0] (fun _ => True) (fun _ => False) rfl rfl ?aP (fun _ hk => hk.elim) ?aF ?aO ?aB ?aS ?aL ?_; (case aP => exact rfl); (case aB => exact (by repeat (first | (with_reducible first | exact HB.out | apply below_alloc | apply pw_below_drewN | apply below_drew1 | refine below_set ?_ GE545.out) | exact HB.out))); (case aF => exact (fun _ _ => trivial)); (case aO => exact HOm.out); (case aS => exact (below_size (by repeat (first | (with_reducible first | exact HB.out | apply below_alloc | apply pw_below_drewN | apply below_drew1 | refine below_set ?_ GE545.out) | exact HB.out)))); (case aL => have := LMc9.out; omega); intro v547 w10 ho hb hg hat; rw [← Ny546.out] at ho; have n0_ := Aside0.mk (blk_grown (g := gb545) (o := .cells #[.int .i64 a0_0, .slice A0_1 l0_1.length c0_1, .slice A0_2 l0_2.length c0_2] 24 (0, 0)) (by (with_reducible repeat (first | refine blk_drewN ?_ _ | refine blk_drew ?_ | refine blk_alloc ?_ _)); exact BK545.out) hg (fun h => HNm.out (Option.some.inj h))); have n1_ := Aside0.mk (hb); have n2_ := Aside0.mk (ho); clear BK545; clear HB; have BK545 := n0_; have HB := n1_; have HO548 := n2_; clear n0_ n1_ n2_; clear ho hb hg hat)))
     go_loopg [6, 7, 32] kj2 (fun kq v6 v7 v32 w' => ∃ (x6_2 : Int) (x7_2 : List Int) (x32_2 : Int), v6 = .int .i64 x6_2 ∧ v32 = .int .i64 x32_2 ∧ Aside0 (machine_Run.l0 kq x6_2 x7_2 l1 (l1.length : Int) x32_2 a0_0 l0_1 l0_2 = some (r1, r2)) ∧ Aside0 (kq ≤ kj2) ∧ Aside0 (Kd.R (Kd.int .i64) 3 w' w.heap.size (fun _ => True) v7 x7_2) ∧ Aside0 (w'.heap[gb545]? = some (.cells #[.int .i64 a0_0, (.slice A0_1 l0_1.length c0_1), (.slice A0_2 l0_2.length c0_2)] 24 (0, 0))) ∧ Aside0 (Below w.heap.size w w'))
     case atStart => exact ⟨(a0_0), (y546), (0), (by first | rfl | (simp; done) | (simp [*]; done)), (by first | rfl | (simp; done) | (simp [*]; done)), H', ⟨Nat.le_refl _⟩, ⟨by (with_reducible repeat (first | apply Kd.R_alloc | apply Kd.R_drewN | apply Kd.R_drew)); exact HO548.out⟩, ⟨by (with_reducible repeat (first | refine blk_drewN ?_ _ | refine blk_drew ?_ | refine blk_alloc ?_ _)); exact BK545.out⟩, ⟨by repeat (first | (with_reducible first | exact HB.out | apply below_alloc | apply pw_below_drewN | apply below_drew1 | refine below_set ?_ GE545.out) | exact HB.out)⟩⟩
     case round =>
      clear H'
      try clear c1
      try clear p2
      try clear c6
      try clear c6b0
      try clear c8
      try clear c9
      try clear hcz5_0
      try clear hcz5_1
      try clear hcz5_2
      try clear hcz7_0
      try clear hcz7_1
      try clear hcz7_2
      try clear hfz5_0
      try clear hfz5_1
      try clear hfz5_2
      try clear hfz7_0
      try clear hfz7_1
      try clear hfz7_2
      try clear p2
      obtain ⟨x6_2, x7_2, x32_2, rfl, rfl, HA, HK2, HO_7, BK545, HB⟩ := hrel
      cases gk with
      | zero => exact absurd HA.out (by simp [machine_Run.l0])
      | succ k2 =>
       have H := HA.out
       clear HA
       simp only [machine_Run.l0] at H
       by_cases c11 : x32_2 < (l1.length : Int)
       ·rw [if_pos c11] at H
        have c11b0 : decide (x32_2 < (l1.length : Int)) = true := decide_eq_true c11
        clear c11
        by_cases c12 : 0 ≤ x32_2
        ·rw [if_pos c12] at H
         have c12b0 : decide (0 ≤ x32_2) = true := decide_eq_true c12
         clear c12
         by_cases c13 : x32_2 < (l1.length : Int)
         ·rw [if_pos c13] at H
          have c13b0 : decide (x32_2 < (l1.length : Int)) = true := decide_eq_true c13
          clear c13
          have HC14 := Aside0.mk H
          clear H
          have p549 : 0 ≤ (x32_2 : Int) := of_decide_eq_true (by first | (with_reducible assumption) | assumption)
          have q549 : x32_2 < (l1.length : Int) := of_decide_eq_true (by first | (with_reducible assumption) | assumption)
          obtain ⟨ad549, e549, hx549_0⟩ := Kd.at_int HR1.out x32_2 p549 q549
          cases e549
          replace hx549_0 := (HB.out.cell (World.block_lt_of_cell? w _ hx549_0)).trans hx549_0
          replace p549 := eq_true p549
          replace q549 := eq_true q549
          go_upto_region 9 with (fail)
          repeat (go_quiet (fail); go_upto_region 9 with (fail))
          go_cut [47] (fun v47 wc => ∃ (kq : Nat) (x47_13 : Bool), v47 = .bool x47_13 ∧ Aside0 (machine_Run.j2 kq x6_2 x7_2 (rd l1 x32_2) l1 (l1.length : Int) x32_2 x47_13 a0_0 l0_1 l0_2 = some (r1, r2)) ∧ Aside0 (kq ≤ k2) ∧ Aside0 (Kd.R (Kd.int .i64) 3 wc w.heap.size (fun _ => True) u7 x7_2) ∧ Aside0 (wc.heap[gb545]? = some (.cells #[.int .i64 a0_0, (.slice A0_1 l0_1.length c0_1), (.slice A0_2 l0_2.length c0_2)] 24 (0, 0))) ∧ Aside0 (Below w.heap.size w wc))
          case first =>
           have H := HC14.out
           clear HC14
           by_cases c15 : (rd l1 x32_2) < 0
           ·rw [if_pos c15] at H
            have c15b0 : decide ((rd l1 x32_2) < 0) = true := decide_eq_true c15
            clear c15
            (first | rw [c15b0] | (simp only [i64_w, i32_w]; rw [c15b0]) | skip)
            have H' := Aside0.mk H
            clear H
            go_wp2
            repeat (go_quiet (fail); try go_wp2)
            go_meet
            case rel => exact ⟨_, (true), (by first | rfl | (simp; done) | (simp [*]; done)), H', ⟨by have := HJ2.out; have := HK2.out; first | omega | exact Nat.le_refl _⟩, ⟨by (with_reducible repeat (first | apply Kd.R_alloc | apply Kd.R_drewN | apply Kd.R_drew)); exact HO_7.out⟩, ⟨by (with_reducible repeat (first | refine blk_drewN ?_ _ | refine blk_drew ?_ | refine blk_alloc ?_ _)); exact BK545.out⟩, ⟨by repeat (first | (with_reducible first | exact HB.out | apply below_alloc | apply pw_below_drewN | apply below_drew1 | refine below_set ?_ GE545.out) | exact HB.out)⟩⟩
           ·rw [if_neg c15] at H
            have c15b0 : decide ((rd l1 x32_2) < 0) = false := decide_eq_false c15
            clear c15
            (first | rw [c15b0] | (simp only [i64_w, i32_w]; rw [c15b0]) | skip)
            by_cases c16 : 0 ≤ x6_2
            ·rw [if_pos c16] at H
             have c16b0 : decide (0 ≤ x6_2) = true := decide_eq_true c16
             clear c16
             by_cases c17 : x6_2 < (l0_1.length : Int)
             ·rw [if_pos c17] at H
              have c17b0 : decide (x6_2 < (l0_1.length : Int)) = true := decide_eq_true c17
              clear c17
              have H' := Aside0.mk H
              clear H
              have hcz18_0 : wr.cell? ⟨gb545, 0, none⟩ = some (.int .i64 a0_0) := (blk_cell BK545.out 0).trans rfl
              have hcz18_1 : wr.cell? ⟨gb545, 1, none⟩ = some (.slice A0_1 l0_1.length c0_1) := (blk_cell BK545.out 1).trans rfl
              have hcz18_2 : wr.cell? ⟨gb545, 2, none⟩ = some (.slice A0_2 l0_2.length c0_2) := (blk_cell BK545.out 2).trans rfl
              have hfz18_0 := blk_frozen BK545.out 0
              have hfz18_1 := blk_frozen BK545.out 1
              have hfz18_2 := blk_frozen BK545.out 2
              have p550 : 0 ≤ (x6_2 : Int) := of_decide_eq_true (by first | (with_reducible assumption) | assumption)
              have q550 : x6_2 < (l0_1.length : Int) := of_decide_eq_true (by first | (with_reducible assumption) | assumption)
              obtain ⟨ad550, A550_0, c550_0, e550, hx550_0, hl550_0, hi550_0⟩ := at_L1 HR0_1.out x6_2 p550 q550
              cases e550
              replace hx550_0 := (HB.out.cell (World.block_lt_of_cell? w _ hx550_0)).trans hx550_0
              have HR550_0 := Aside0.mk hi550_0
              have HC550_0 := Aside0.mk hl550_0
              clear hi550_0 hl550_0
              replace p550 := eq_true p550
              replace q550 := eq_true q550
              go_wp2
              repeat (go_quiet (fail); try go_wp2)
              go_meet
              case rel => exact ⟨_, (decide ((rd l1 x32_2) ≥ ((rd_L1 l0_1 x6_2).length : Int))), (by first | rfl | (simp; done) | (simp [*]; done)), H', ⟨by have := HJ2.out; have := HK2.out; first | omega | exact Nat.le_refl _⟩, ⟨by (with_reducible repeat (first | apply Kd.R_alloc | apply Kd.R_drewN | apply Kd.R_drew)); exact HO_7.out⟩, ⟨by (with_reducible repeat (first | refine blk_drewN ?_ _ | refine blk_drew ?_ | refine blk_alloc ?_ _)); exact BK545.out⟩, ⟨by repeat (first | (with_reducible first | exact HB.out | apply below_alloc | apply pw_below_drewN | apply below_drew1 | refine below_set ?_ GE545.out) | exact HB.out)⟩⟩
             ·rw [if_neg c17] at H
              exact absurd H (by simp)
            ·rw [if_neg c16] at H
             exact absurd H (by simp)
          case rest =>
           clear HC14
           try clear c1
           try clear p2
           try clear c5
           try clear p5
           try clear q5
           try clear hx5
           try clear c6
           try clear c6b0
           try clear c8
           try clear c9
           try clear c11
           try clear c11b0
           try clear c12
           try clear c12b0
           try clear c13
           try clear c13b0
           try clear c15
           try clear c15b0
           try clear c16
           try clear c16b0
           try clear c17
           try clear c17b0
           try clear hcz18_0
           try clear hcz18_1
           try clear hcz18_2
           try clear hcz5_0
           try clear hcz5_1
           try clear hcz5_2
           try clear hcz7_0
           try clear hcz7_1
           try clear hcz7_2
           try clear hfz18_0
           try clear hfz18_1
           try clear hfz18_2
           try clear hfz5_0
           try clear hfz5_1
           try clear hfz5_2
           try clear hfz7_0
           try clear hfz7_1
           try clear hfz7_2
           try clear hx549_0
           try clear hx550_0
           try clear p2
           try clear p549
           try clear p550
           try clear q549
           try clear q550
           obtain ⟨kq, x47_13, rfl, HA, HJ13, HO_7, BK545, HB⟩ := hcut
           cases kq with
           | zero => exact absurd HA.out (by simp [machine_Run.j2])
           | succ kj13 =>
            have H := HA.out
            clear HA
            simp only [machine_Run.j2] at H
            by_cases c19 : x47_13 = true
            ·subst c19
             have H1 : (some (([] : List Int), 1)) = some (r1, r2) := by rw [if_pos rfl] at H; exact H
             clear H
             have H := H1
             clear H1
             simp only [Option.some.injEq, Prod.mk.injEq] at H
             obtain ⟨rfl, rfl⟩ := H
             have hAq := HAll.out _ HB.out
             go_wp2
             repeat (go_quiet (fail); try go_wp2)
             go_ret2
             exact ⟨_, by first | rfl | (simp [errW_none, errW_some] <;> rfl) | (simp [*, errW_none, errW_some] <;> rfl), by first | exact Kd.R_nil _ _ _ _ _ | exact Kd.N_nil _ _ _ _ _ | exact Kd.V_nil _ _ _ _ _ | exact Kd.Q_nil _ _ _ _ _ | exact Kd.S_nil _ _ _ _ _, by repeat (first | (with_reducible first | exact HB.out | apply below_alloc | apply pw_below_drewN | apply below_drew1 | refine below_set ?_ GE545.out) | exact HB.out)⟩
            ·replace c19 := Bool.eq_false_iff.mpr c19
             subst c19
             have H1 : (if 0 ≤ x6_2 then (if x6_2 < (l0_1.length : Int) then (if 0 ≤ (rd l1 x32_2) then (if (rd l1 x32_2) < ((rd_L1 l0_1 x6_2).length : Int) then (if (rd (rd_L1 l0_1 x6_2) (rd l1 x32_2)) < 0 then (some (([] : List Int), 1)) else (if (rd (rd_L1 l0_1 x6_2) (rd l1 x32_2)) ≥ (l0_1.length : Int) then (some (([] : List Int), 1)) else (if x7_2.length < 17592186044416 then (machine_Run.l0 kj13 (rd (rd_L1 l0_1 x6_2) (rd l1 x32_2)) (x7_2 ++ [rd (rd_L1 l0_1 x6_2) (rd l1 x32_2)]) l1 (l1.length : Int) (wrap64 (x32_2 + 1)) a0_0 l0_1 l0_2) else (none)))) else (none)) else (none)) else (none)) else (none)) = some (r1, r2) := by rw [if_neg (show ¬ (false = true) by decide)] at H; exact H
             clear H
             have H := H1
             clear H1
             by_cases c20 : 0 ≤ x6_2
             ·rw [if_pos c20] at H
              have c20b0 : decide (0 ≤ x6_2) = true := decide_eq_true c20
              clear c20
              by_cases c21 : x6_2 < (l0_1.length : Int)
              ·rw [if_pos c21] at H
               have c21b0 : decide (x6_2 < (l0_1.length : Int)) = true := decide_eq_true c21
               clear c21
               by_cases c22 : 0 ≤ (rd l1 x32_2)
               ·rw [if_pos c22] at H
                have c22b0 : decide (0 ≤ (rd l1 x32_2)) = true := decide_eq_true c22
                clear c22
                by_cases c23 : (rd l1 x32_2) < ((rd_L1 l0_1 x6_2).length : Int)
                ·rw [if_pos c23] at H
                 have c23b0 : decide ((rd l1 x32_2) < ((rd_L1 l0_1 x6_2).length : Int)) = true := decide_eq_true c23
                 clear c23
                 by_cases c24 : (rd (rd_L1 l0_1 x6_2) (rd l1 x32_2)) < 0
                 ·rw [if_pos c24] at H
                  have c24b0 : decide ((rd (rd_L1 l0_1 x6_2) (rd l1 x32_2)) < 0) = true := decide_eq_true c24
                  clear c24
                  simp only [Option.some.injEq, Prod.mk.injEq] at H
                  obtain ⟨rfl, rfl⟩ := H
                  have hAq := HAll.out _ HB.out
                  have hcz25_0 : wc.cell? ⟨gb545, 0, none⟩ = some (.int .i64 a0_0) := (blk_cell BK545.out 0).trans rfl
                  have hcz25_1 : wc.cell? ⟨gb545, 1, none⟩ = some (.slice A0_1 l0_1.length c0_1) := (blk_cell BK545.out 1).trans rfl
                  have hcz25_2 : wc.cell? ⟨gb545, 2, none⟩ = some (.slice A0_2 l0_2.length c0_2) := (blk_cell BK545.out 2).trans rfl
                  have hfz25_0 := blk_frozen BK545.out 0
                  have hfz25_1 := blk_frozen BK545.out 1
                  have hfz25_2 := blk_frozen BK545.out 2
                  have p551 : 0 ≤ (x6_2 : Int) := of_decide_eq_true (by first | (with_reducible assumption) | assumption)
                  have q551 : x6_2 < (l0_1.length : Int) := of_decide_eq_true (by first | (with_reducible assumption) | assumption)
                  obtain ⟨ad551, A551_0, c551_0, e551, hx551_0, hl551_0, hi551_0⟩ := at_L1 HR0_1.out x6_2 p551 q551
                  cases e551
                  replace hx551_0 := (HB.out.cell (World.block_lt_of_cell? w _ hx551_0)).trans hx551_0
                  have HR551_0 := Aside0.mk hi551_0
                  have HC551_0 := Aside0.mk hl551_0
                  clear hi551_0 hl551_0
                  replace p551 := eq_true p551
                  replace q551 := eq_true q551
                  have p552 : 0 ≤ ((rd l1 x32_2) : Int) := of_decide_eq_true (by first | (with_reducible assumption) | assumption)
                  have q552 : (rd l1 x32_2) < ((rd_L1 l0_1 x6_2).length : Int) := of_decide_eq_true (by first | (with_reducible assumption) | assumption)
                  obtain ⟨ad552, e552, hx552_0⟩ := Kd.at_int HR551_0.out (rd l1 x32_2) p552 q552
                  cases e552
                  replace hx552_0 := (HB.out.cell (World.block_lt_of_cell? w _ hx552_0)).trans hx552_0
                  replace p552 := eq_true p552
                  replace q552 := eq_true q552
                  go_wp2
                  repeat (go_quiet (fail); try go_wp2)
                  go_ret2
                  exact ⟨_, by first | rfl | (simp [errW_none, errW_some] <;> rfl) | (simp [*, errW_none, errW_some] <;> rfl), by first | exact Kd.R_nil _ _ _ _ _ | exact Kd.N_nil _ _ _ _ _ | exact Kd.V_nil _ _ _ _ _ | exact Kd.Q_nil _ _ _ _ _ | exact Kd.S_nil _ _ _ _ _, by repeat (first | (with_reducible first | exact HB.out | apply below_alloc | apply pw_below_drewN | apply below_drew1 | refine below_set ?_ GE545.out) | exact HB.out)⟩
                 ·rw [if_neg c24] at H
                  have c24b0 : decide ((rd (rd_L1 l0_1 x6_2) (rd l1 x32_2)) < 0) = false := decide_eq_false c24
                  clear c24
                  by_cases c26 : (rd (rd_L1 l0_1 x6_2) (rd l1 x32_2)) ≥ (l0_1.length : Int)
                  ·rw [if_pos c26] at H
                   have c26b0 : decide ((l0_1.length : Int) ≤ (rd (rd_L1 l0_1 x6_2) (rd l1 x32_2))) = true := decide_eq_true c26
                   clear c26
                   simp only [Option.some.injEq, Prod.mk.injEq] at H
                   obtain ⟨rfl, rfl⟩ := H
                   have hAq := HAll.out _ HB.out
                   have hcz27_0 : wc.cell? ⟨gb545, 0, none⟩ = some (.int .i64 a0_0) := (blk_cell BK545.out 0).trans rfl
                   have hcz27_1 : wc.cell? ⟨gb545, 1, none⟩ = some (.slice A0_1 l0_1.length c0_1) := (blk_cell BK545.out 1).trans rfl
                   have hcz27_2 : wc.cell? ⟨gb545, 2, none⟩ = some (.slice A0_2 l0_2.length c0_2) := (blk_cell BK545.out 2).trans rfl
                   have hfz27_0 := blk_frozen BK545.out 0
                   have hfz27_1 := blk_frozen BK545.out 1
                   have hfz27_2 := blk_frozen BK545.out 2
                   have p551 : 0 ≤ (x6_2 : Int) := of_decide_eq_true (by first | (with_reducible assumption) | assumption)
                   have q551 : x6_2 < (l0_1.length : Int) := of_decide_eq_true (by first | (with_reducible assumption) | assumption)
                   obtain ⟨ad551, A551_0, c551_0, e551, hx551_0, hl551_0, hi551_0⟩ := at_L1 HR0_1.out x6_2 p551 q551
                   cases e551
                   replace hx551_0 := (HB.out.cell (World.block_lt_of_cell? w _ hx551_0)).trans hx551_0
                   have HR551_0 := Aside0.mk hi551_0
                   have HC551_0 := Aside0.mk hl551_0
                   clear hi551_0 hl551_0
                   replace p551 := eq_true p551
                   replace q551 := eq_true q551
                   have p552 : 0 ≤ ((rd l1 x32_2) : Int) := of_decide_eq_true (by first | (with_reducible assumption) | assumption)
                   have q552 : (rd l1 x32_2) < ((rd_L1 l0_1 x6_2).length : Int) := of_decide_eq_true (by first | (with_reducible assumption) | assumption)
                   obtain ⟨ad552, e552, hx552_0⟩ := Kd.at_int HR551_0.out (rd l1 x32_2) p552 q552
                   cases e552
                   replace hx552_0 := (HB.out.cell (World.block_lt_of_cell? w _ hx552_0)).trans hx552_0
                   replace p552 := eq_true p552
                   replace q552 := eq_true q552
                   go_wp2
                   repeat (go_quiet (fail); try go_wp2)
                   go_ret2
                   exact ⟨_, by first | rfl | (simp [errW_none, errW_some] <;> rfl) | (simp [*, errW_none, errW_some] <;> rfl), by first | exact Kd.R_nil _ _ _ _ _ | exact Kd.N_nil _ _ _ _ _ | exact Kd.V_nil _ _ _ _ _ | exact Kd.Q_nil _ _ _ _ _ | exact Kd.S_nil _ _ _ _ _, by repeat (first | (with_reducible first | exact HB.out | apply below_alloc | apply pw_below_drewN | apply below_drew1 | refine below_set ?_ GE545.out) | exact HB.out)⟩
                  ·rw [if_neg c26] at H
                   have c26b0 : decide ((l0_1.length : Int) ≤ (rd (rd_L1 l0_1 x6_2) (rd l1 x32_2))) = false := decide_eq_false c26
                   clear c26
                   by_cases c28 : x7_2.length < 17592186044416
                   ·rw [if_pos c28] at H
                    have LMc28 := Aside0.mk c28
                    clear c28
                    obtain ⟨y553, hy553⟩ : ∃ y_ : List Int, y_ = (x7_2 ++ [rd (rd_L1 l0_1 x6_2) (rd l1 x32_2)]) := ⟨_, rfl⟩
                    replace H : (machine_Run.l0 kj13 (rd (rd_L1 l0_1 x6_2) (rd l1 x32_2)) y553 l1 (l1.length : Int) (wrap64 (x32_2 + 1)) a0_0 l0_1 l0_2) = some (r1, r2) := by first | (rw [hy553]; with_reducible exact H) | (have H2_ := (Option.bind_some _ _).symm.trans H; rw [hy553]; with_reducible exact H2_) | (have H2_ := (Option.bind_some _ _).symm.trans H; with_reducible exact H2_) | with_reducible exact H | (rw [hy553]; exact H) | exact H
                    have Ny553 := Aside0.mk hy553
                    clear hy553
                    have H' := Aside0.mk H
                    clear H
                    have hcz29_0 : wc.cell? ⟨gb545, 0, none⟩ = some (.int .i64 a0_0) := (blk_cell BK545.out 0).trans rfl
                    have hcz29_1 : wc.cell? ⟨gb545, 1, none⟩ = some (.slice A0_1 l0_1.length c0_1) := (blk_cell BK545.out 1).trans rfl
                    have hcz29_2 : wc.cell? ⟨gb545, 2, none⟩ = some (.slice A0_2 l0_2.length c0_2) := (blk_cell BK545.out 2).trans rfl
                    have hfz29_0 := blk_frozen BK545.out 0
                    have hfz29_1 := blk_frozen BK545.out 1
                    have hfz29_2 := blk_frozen BK545.out 2
                    have p551 : 0 ≤ (x6_2 : Int) := of_decide_eq_true (by first | (with_reducible assumption) | assumption)
                    have q551 : x6_2 < (l0_1.length : Int) := of_decide_eq_true (by first | (with_reducible assumption) | assumption)
                    obtain ⟨ad551, A551_0, c551_0, e551, hx551_0, hl551_0, hi551_0⟩ := at_L1 HR0_1.out x6_2 p551 q551
                    cases e551
                    replace hx551_0 := (HB.out.cell (World.block_lt_of_cell? w _ hx551_0)).trans hx551_0
                    have HR551_0 := Aside0.mk hi551_0
                    have HC551_0 := Aside0.mk hl551_0
                    clear hi551_0 hl551_0
                    replace p551 := eq_true p551
                    replace q551 := eq_true q551
                    have p552 : 0 ≤ ((rd l1 x32_2) : Int) := of_decide_eq_true (by first | (with_reducible assumption) | assumption)
                    have q552 : (rd l1 x32_2) < ((rd_L1 l0_1 x6_2).length : Int) := of_decide_eq_true (by first | (with_reducible assumption) | assumption)
                    obtain ⟨ad552, e552, hx552_0⟩ := Kd.at_int HR551_0.out (rd l1 x32_2) p552 q552
                    cases e552
                    replace hx552_0 := (HB.out.cell (World.block_lt_of_cell? w _ hx552_0)).trans hx552_0
                    replace p552 := eq_true p552
                    replace q552 := eq_true q552
                    go_wp2_with (first | ((with_reducible refine gate_builtin (b := .append) (xs := #[.tmp 67, .tmp 69]) rfl ?_); (try (refine gate_guard (by rfl) ?_; dsimp only)); at_builtin; refine Kd.R_append (Kd.int .i64) (w0 := w) w.heap.size rfl (.tmp 67) (.tmp 69) 25 3 (.int .i64 0) 8 rfl Tryd.underlying25 info3 rfl (by decide) (by omega) u7 x7_2 (rd (rd_L1 l0_1 x6_2) (rd l1 x32_2)) [.int .i64 (rd (rd_L1 l0_1 x6_2) (rd l1 x32_2))] (fun _ => True) (fun _ => False) rfl rfl ?aP (fun _ hk => hk.elim) ?aF ?aO ?aB ?aS ?aL ?_; (case aP => exact rfl); (case aB => exact (by repeat (first | (with_reducible first | exact HB.out | apply below_alloc | apply pw_below_drewN | apply below_drew1 | refine below_set ?_ GE545.out) | exact HB.out))); (case aF => exact (fun _ _ => trivial)); (case aO => exact (by (with_reducible repeat (first | apply Kd.R_alloc | apply Kd.R_drewN | apply Kd.R_drew)); exact HO_7.out)); (case aS => exact (below_size (by repeat (first | (with_reducible first | exact HB.out | apply below_alloc | apply pw_below_drewN | apply below_drew1 | refine below_set ?_ GE545.out) | exact HB.out)))); (case aL => have := LMc28.out; omega); intro v554 w30 ho hb hg hat; rw [← Ny553.out] at ho; have n0_ := Aside0.mk (blk_grown (g := gb545) (o := .cells #[.int .i64 a0_0, .slice (some ad551) l0_1.length c0_1, .slice A0_2 l0_2.length c0_2] 24 (0, 0)) (by (with_reducible repeat (first | refine blk_drewN ?_ _ | refine blk_drew ?_ | refine blk_alloc ?_ _)); exact BK545.out) hg (Kd.R_ne HO_7.out BK545.out (by decide))); have n1_ := Aside0.mk (hb); have n2_ := Aside0.mk (ho); clear BK545; clear HB; clear HO_7; have BK545 := n0_; have HB := n1_; have HO555 := n2_; clear n0_ n1_ n2_; clear ho hb hg hat))
                    repeat (go_quiet (first | ((with_reducible refine gate_builtin (b := .append) (xs := #[.tmp 67, .tmp 69]) rfl ?_); (try (refine gate_guard (by rfl) ?_; dsimp only)); at_builtin; refine Kd.R_append (Kd.int .i64) (w0 := w) w.heap.size rfl (.tmp 67) (.tmp 69) 25 3 (.int .i64 0) 8 rfl Tryd.underlying25 info3 rfl (by decide) (by omega) u7 x7_2 (rd (rd_L1 l0_1 x6_2) (rd l1 x32_2)) [.int .i64 (rd (rd_L1 l0_1 x6_2) (rd l1 x32_2))] (fun _ => True) (fun _ => False) rfl rfl ?aP (fun _ hk => hk.elim) ?aF ?aO ?aB ?aS ?aL ?_; (case aP => exact rfl); (case aB => exact (by repeat (first | (with_reducible first | exact HB.out | apply below_alloc | apply pw_below_drewN | apply below_drew1 | refine below_set ?_ GE545.out) | exact HB.out))); (case aF => exact (fun _ _ => trivial)); (case aO => exact (by (with_reducible repeat (first | apply Kd.R_alloc | apply Kd.R_drewN | apply Kd.R_drew)); exact HO_7.out)); (case aS => exact (below_size (by repeat (first | (with_reducible first | exact HB.out | apply below_alloc | apply pw_below_drewN | apply below_drew1 | refine below_set ?_ GE545.out) | exact HB.out)))); (case aL => have := LMc28.out; omega); intro v554 w30 ho hb hg hat; rw [← Ny553.out] at ho; have n0_ := Aside0.mk (blk_grown (g := gb545) (o := .cells #[.int .i64 a0_0, .slice (some ad551) l0_1.length c0_1, .slice A0_2 l0_2.length c0_2] 24 (0, 0)) (by (with_reducible repeat (first | refine blk_drewN ?_ _ | refine blk_drew ?_ | refine blk_alloc ?_ _)); exact BK545.out) hg (Kd.R_ne HO_7.out BK545.out (by decide))); have n1_ := Aside0.mk (hb); have n2_ := Aside0.mk (ho); clear BK545; clear HB; clear HO_7; have BK545 := n0_; have HB := n1_; have HO555 := n2_; clear n0_ n1_ n2_; clear ho hb hg hat)); try go_wp2_with (first | ((with_reducible refine gate_builtin (b := .append) (xs := #[.tmp 67, .tmp 69]) rfl ?_); (try (refine gate_guard (by rfl) ?_; dsimp only)); at_builtin; refine Kd.R_append (Kd.int .i64) (w0 := w) w.heap.size rfl (.tmp 67) (.tmp 69) 25 3 (.int .i64 0) 8 rfl Tryd.underlying25 info3 rfl (by decide) (by omega) u7 x7_2 (rd (rd_L1 l0_1 x6_2) (rd l1 x32_2)) [.int .i64 (rd (rd_L1 l0_1 x6_2) (rd l1 x32_2))] (fun _ => True) (fun _ => False) rfl rfl ?aP (fun _ hk => hk.elim) ?aF ?aO ?aB ?aS ?aL ?_; (case aP => exact rfl); (case aB => exact (by repeat (first | (with_reducible first | exact HB.out | apply below_alloc | apply pw_below_drewN | apply below_drew1 | refine below_set ?_ GE545.out) | exact HB.out))); (case aF => exact (fun _ _ => trivial)); (case aO => exact (by (with_reducible repeat (first | apply Kd.R_alloc | apply Kd.R_drewN | apply Kd.R_drew)); exact HO_7.out)); (case aS => exact (below_size (by repeat (first | (with_reducible first | exact HB.out | apply below_alloc | apply pw_below_drewN | apply below_drew1 | refine below_set ?_ GE545.out) | exact HB.out)))); (case aL => have := LMc28.out; omega); intro v554 w30 ho hb hg hat; rw [← Ny553.out] at ho; have n0_ := Aside0.mk (blk_grown (g := gb545) (o := .cells #[.int .i64 a0_0, .slice (some ad551) l0_1.length c0_1, .slice A0_2 l0_2.length c0_2] 24 (0, 0)) (by (with_reducible repeat (first | refine blk_drewN ?_ _ | refine blk_drew ?_ | refine blk_alloc ?_ _)); exact BK545.out) hg (Kd.R_ne HO_7.out BK545.out (by decide))); have n1_ := Aside0.mk (hb); have n2_ := Aside0.mk (ho); clear BK545; clear HB; clear HO_7; have BK545 := n0_; have HB := n1_; have HO555 := n2_; clear n0_ n1_ n2_; clear ho hb hg hat)))
                    go_roundg kj13
                    case measure => have := HJ2.out; have := HK2.out; have := HJ13.out; omega
                    case rel => exact ⟨(rd (rd_L1 l0_1 x6_2) (rd l1 x32_2)), (y553), (wrap64 (x32_2 + 1)), (by first | rfl | (simp; done) | (simp [*]; done)), (by first | rfl | (simp; done) | (simp [*]; done)), H', ⟨by have := HJ2.out; have := HK2.out; have := HJ13.out; omega⟩, ⟨by (with_reducible repeat (first | apply Kd.R_alloc | apply Kd.R_drewN | apply Kd.R_drew)); exact HO555.out⟩, ⟨by (with_reducible repeat (first | refine blk_drewN ?_ _ | refine blk_drew ?_ | refine blk_alloc ?_ _)); exact BK545.out⟩, ⟨by repeat (first | (with_reducible first | exact HB.out | apply below_alloc | apply pw_below_drewN | apply below_drew1 | refine below_set ?_ GE545.out) | exact HB.out)⟩⟩
                   ·rw [if_neg c28] at H
                    exact absurd H (by simp)
                ·rw [if_neg c23] at H
                 exact absurd H (by simp)
               ·rw [if_neg c22] at H
                exact absurd H (by simp)
              ·rw [if_neg c21] at H
               exact absurd H (by simp)
             ·rw [if_neg c20] at H
              exact absurd H (by simp)
         ·rw [if_neg c13] at H
          exact absurd H (by simp)
        ·rw [if_neg c12] at H
         exact absurd H (by simp)
       ·rw [if_neg c11] at H
        have c11b0 : decide (x32_2 < (l1.length : Int)) = false := decide_eq_false c11
        clear c11
        simp only [Option.some.injEq, Prod.mk.injEq] at H
        obtain ⟨rfl, rfl⟩ := H
        have hAq := HAll.out _ HB.out
        go_wp2
        repeat (go_quiet (fail); try go_wp2)
        go_ret2
        exact ⟨_, by first | rfl | (simp [errW_none, errW_some] <;> rfl) | (simp [*, errW_none, errW_some] <;> rfl), by (with_reducible repeat (first | apply Kd.R_alloc | apply Kd.R_drewN | apply Kd.R_drew)); exact HO_7.out, by repeat (first | (with_reducible first | exact HB.out | apply below_alloc | apply pw_below_drewN | apply below_drew1 | refine below_set ?_ GE545.out) | exact HB.out)⟩
    ·rw [if_neg c9] at H
     exact absurd H (by simp)
end Go.Proofs.YtfonajakaimnoaaDoor.Lib

namespace Go.Proofs.YtfonajakaimnoaaDoor.Lib
open Go.RowKit Go.Proofs.YtfonajakaimnoaaDoorW.PrintWords Go.Proofs.YtfonajakaimnoaaDoorW.PrintLast Go.Proofs.YtfonajakaimnoaaDoorW.PrintMore
attribute [local go_sem] max2_int min2_int max_two min_two max_three min_three max_four min_four   -- for this text's walks alone
set_option linter.unusedVariables false
set_option linter.unusedSimpArgs false
mutual
def caesuraref12_Run.j0 : Nat → List Int → Int → Bool → Int → List (List Int) → List (List Int) → Option (List Int × Int)
 | 0, _, _, _, _, _, _ => none
 | k + 1, x1, x6, x19, x573000, x573001, x573002 => if x19 = true then (some (([] : List Int), 1)) else (caesuraref12_Run.l0 k x1 x6 (([x6] : List Int)) 0 x573000 x573001 x573002)
def caesuraref12_Run.l0 : Nat → List Int → Int → List Int → Int → Int → List (List Int) → List (List Int) → Option (List Int × Int)
 | 0, _, _, _, _, _, _, _ => none
 | k + 1, x1, x6, x7, x8, x573000, x573001, x573002 => if x8 < (x1.length : Int) then (if 0 ≤ x8 then (if (rd x1 x8) < 0 then (caesuraref12_Run.j2 k x1 x6 x7 x8 true x573000 x573001 x573002) else (if 0 ≤ x6 then (if x6 < (x573001.length : Int) then (caesuraref12_Run.j2 k x1 x6 x7 x8 (decide ((rd x1 x8) ≥ ((rd_L1 x573001 x6).length : Int))) x573000 x573001 x573002) else (none)) else (none))) else (none)) else (some (x7, 0))
def caesuraref12_Run.j2 : Nat → List Int → Int → List Int → Int → Bool → Int → List (List Int) → List (List Int) → Option (List Int × Int)
 | 0, _, _, _, _, _, _, _, _ => none
 | k + 1, x1, x6, x7, x8, x45, x573000, x573001, x573002 => if x45 = true then (some (([] : List Int), 1)) else (if 0 ≤ x6 then (if x6 < (x573001.length : Int) then (if 0 ≤ x8 then (if x8 < (x1.length : Int) then (if 0 ≤ (rd x1 x8) then (if (rd x1 x8) < ((rd_L1 x573001 x6).length : Int) then (if (rd (rd_L1 x573001 x6) (rd x1 x8)) < 0 then (some (([] : List Int), 1)) else (if (rd (rd_L1 x573001 x6) (rd x1 x8)) ≥ (x573001.length : Int) then (some (([] : List Int), 1)) else (if x7.length < 17592186044416 then (caesuraref12_Run.l0 k x1 (rd (rd_L1 x573001 x6) (rd x1 x8)) (x7 ++ [rd (rd_L1 x573001 x6) (rd x1 x8)]) (wrap64 (x8 + 1)) x573000 x573001 x573002) else (none)))) else (none)) else (none)) else (none)) else (none)) else (none)) else (none))
end
def caesuraref12_Run.f (k : Nat) (a0_0 : Int) (l0_1 : List (List Int)) (l0_2 : List (List Int)) (l1 : List Int) : Option (List Int × Int) := if a0_0 < 0 then (caesuraref12_Run.j0 k l1 a0_0 true a0_0 l0_1 l0_2) else (caesuraref12_Run.j0 k l1 a0_0 (decide (a0_0 ≥ (l0_1.length : Int))) a0_0 l0_1 l0_2)
set_option maxHeartbeats 8000000 in
set_option maxRecDepth 100000 in
theorem caesuraref12_Run.calls (k : Nat) (a0_0 : Int) (A0_1 : Option Addr) (c0_1 : Nat) (l0_1 : List (List Int)) (A0_2 : Option Addr) (c0_2 : Nat) (l0_2 : List (List Int)) (A1 : Option Addr) (c1 : Nat) (l1 : List Int) (r1 : List Int) (r2 : Int) (w : World) (hr0_1 : Kd.C (Kd.slice 3 (Kd.int .i64)) w A0_1 l0_1.length l0_1) (hc0_1 : l0_1.length ≤ c0_1) (hr0_2 : Kd.C (Kd.slice 3 (Kd.int .i64)) w A0_2 l0_2.length l0_2) (hc0_2 : l0_2.length ≤ c0_2) (hr1 : Kd.C (Kd.int .i64) w A1 l1.length l1) (hc1 : l1.length ≤ c1) (h : caesuraref12_Run.f k a0_0 l0_1 l0_2 l1 = some (r1, r2)) :
  Calls Tryd.prog 98 #[.agg #[.int .i64 a0_0, .slice A0_1 l0_1.length c0_1, .slice A0_2 l0_2.length c0_2], .slice A1 l1.length c1] w fun e w' => ∃ v0_ : Value, e = .returned (.tuple #[v0_, .int .i64 r2]) ∧ Kd.R (Kd.int .i64) 3 w' w.heap.size (fun _ => True) v0_ r1 ∧ Below w.heap.size w w' := by
 have hu24 := Tryd.underlying24
 have HR0_1 := Aside0.mk hr0_1
 have HC0_1 := Aside0.mk hc0_1
 clear hr0_1 hc0_1
 have HR0_2 := Aside0.mk hr0_2
 have HC0_2 := Aside0.mk hc0_2
 clear hr0_2 hc0_2
 have HR1 := Aside0.mk hr1
 have HC1 := Aside0.mk hc1
 clear hr1 hc1
 have HB := Aside0.mk (Below.refl w.heap.size w)
 have H : (if a0_0 < 0 then (caesuraref12_Run.j0 k l1 a0_0 true a0_0 l0_1 l0_2) else (caesuraref12_Run.j0 k l1 a0_0 (decide (a0_0 ≥ (l0_1.length : Int))) a0_0 l0_1 l0_2)) = some (r1, r2) := h
 clear h
 have HC3 := Aside0.mk H
 clear H
 go_enter Tryd.func98, Tryd.ntmps98
 go_upto_region 2 with (first | ((with_reducible refine gate_dst (N := 2) rfl ?_); (try (refine gate_guard (by rfl) ?_; dsimp only)); refine box_event ?hg (N := 2) ?hd (cs := #[.int .i64 a0_0, .slice A0_1 l0_1.length c0_1, .slice A0_2 l0_2.length c0_2]) (t := 24) ?hr ?_; (case hd => rfl); (case hg => rfl); (case hr => first | (go_simp; done) | (go_simp; rfl)); intro gb572 hg w4 hbox hb; have n0_ := Aside0.mk (below_step (by repeat (first | (with_reducible first | exact HB.out | apply below_alloc | apply pw_below_drewN | apply below_drew1) | exact HB.out)) hb); have n1_ := Aside0.mk (hbox); have n2_ := Aside0.mk ((by rw [hg]; exact (below_size (by repeat (first | (with_reducible first | exact HB.out | apply below_alloc | apply pw_below_drewN | apply below_drew1) | exact HB.out))) : w.heap.size ≤ gb572)); have n3_ := Aside0.mk ((by rw [hg]; exact (below_size (by repeat (first | (with_reducible first | exact HB.out | apply below_alloc | apply pw_below_drewN | apply below_drew1) | exact HB.out))) : w.heap.size ≤ gb572)); clear HB; have HB := n0_; have BK572 := n1_; have GW572 := n2_; have GE572 := n3_; clear n0_ n1_ n2_ n3_; clear hb hbox hg; have hcz5_0 : w4.cell? ⟨gb572, 0, none⟩ = some (.int .i64 a0_0) := (blk_cell BK572.out 0).trans rfl; have hcz5_1 : w4.cell? ⟨gb572, 1, none⟩ = some (.slice A0_1 l0_1.length c0_1) := (blk_cell BK572.out 1).trans rfl; have hcz5_2 : w4.cell? ⟨gb572, 2, none⟩ = some (.slice A0_2 l0_2.length c0_2) := (blk_cell BK572.out 2).trans rfl; have hfz5_0 := blk_frozen BK572.out 0; have hfz5_1 := blk_frozen BK572.out 1; have hfz5_2 := blk_frozen BK572.out 2))
 repeat (go_quiet (first | ((with_reducible refine gate_dst (N := 2) rfl ?_); (try (refine gate_guard (by rfl) ?_; dsimp only)); refine box_event ?hg (N := 2) ?hd (cs := #[.int .i64 a0_0, .slice A0_1 l0_1.length c0_1, .slice A0_2 l0_2.length c0_2]) (t := 24) ?hr ?_; (case hd => rfl); (case hg => rfl); (case hr => first | (go_simp; done) | (go_simp; rfl)); intro gb572 hg w4 hbox hb; have n0_ := Aside0.mk (below_step (by repeat (first | (with_reducible first | exact HB.out | apply below_alloc | apply pw_below_drewN | apply below_drew1) | exact HB.out)) hb); have n1_ := Aside0.mk (hbox); have n2_ := Aside0.mk ((by rw [hg]; exact (below_size (by repeat (first | (with_reducible first | exact HB.out | apply below_alloc | apply pw_below_drewN | apply below_drew1) | exact HB.out))) : w.heap.size ≤ gb572)); have n3_ := Aside0.mk ((by rw [hg]; exact (below_size (by repeat (first | (with_reducible first | exact HB.out | apply below_alloc | apply pw_below_drewN | apply below_drew1) | exact HB.out))) : w.heap.size ≤ gb572)); clear HB; have HB := n0_; have BK572 := n1_; have GW572 := n2_; have GE572 := n3_; clear n0_ n1_ n2_ n3_; clear hb hbox hg; have hcz5_0 : w4.cell? ⟨gb572, 0, none⟩ = some (.int .i64 a0_0) := (blk_cell BK572.out 0).trans rfl; have hcz5_1 : w4.cell? ⟨gb572, 1, none⟩ = some (.slice A0_1 l0_1.length c0_1) := (blk_cell BK572.out 1).trans rfl; have hcz5_2 : w4.cell? ⟨gb572, 2, none⟩ = some (.slice A0_2 l0_2.length c0_2) := (blk_cell BK572.out 2).trans rfl; have hfz5_0 := blk_frozen BK572.out 0; have hfz5_1 := blk_frozen BK572.out 1; have hfz5_2 := blk_frozen BK572.out 2)); go_upto_region 2 with (first | ((with_reducible refine gate_dst (N := 2) rfl ?_); (try (refine gate_guard (by rfl) ?_; dsimp only)); refine box_event ?hg (N := 2) ?hd (cs := #[.int .i64 a0_0, .slice A0_1 l0_1.length c0_1, .slice A0_2 l0_2.length c0_2]) (t := 24) ?hr ?_; (case hd => rfl); (case hg => rfl); (case hr => first | (go_simp; done) | (go_simp; rfl)); intro gb572 hg w4 hbox hb; have n0_ := Aside0.mk (below_step (by repeat (first | (with_reducible first | exact HB.out | apply below_alloc | apply pw_below_drewN | apply below_drew1) | exact HB.out)) hb); have n1_ := Aside0.mk (hbox); have n2_ := Aside0.mk ((by rw [hg]; exact (below_size (by repeat (first | (with_reducible first | exact HB.out | apply below_alloc | apply pw_below_drewN | apply below_drew1) | exact HB.out))) : w.heap.size ≤ gb572)); have n3_ := Aside0.mk ((by rw [hg]; exact (below_size (by repeat (first | (with_reducible first | exact HB.out | apply below_alloc | apply pw_below_drewN | apply below_drew1) | exact HB.out))) : w.heap.size ≤ gb572)); clear HB; have HB := n0_; have BK572 := n1_; have GW572 := n2_; have GE572 := n3_; clear n0_ n1_ n2_ n3_; clear hb hbox hg; have hcz5_0 : w4.cell? ⟨gb572, 0, none⟩ = some (.int .i64 a0_0) := (blk_cell BK572.out 0).trans rfl; have hcz5_1 : w4.cell? ⟨gb572, 1, none⟩ = some (.slice A0_1 l0_1.length c0_1) := (blk_cell BK572.out 1).trans rfl; have hcz5_2 : w4.cell? ⟨gb572, 2, none⟩ = some (.slice A0_2 l0_2.length c0_2) := (blk_cell BK572.out 2).trans rfl; have hfz5_0 := blk_frozen BK572.out 0; have hfz5_1 := blk_frozen BK572.out 1; have hfz5_2 := blk_frozen BK572.out 2)))
 (try simp only [Act.put, List.setIfInBounds_toArray, List.set_cons_zero, List.set_cons_succ])
 go_cut [19] (fun v19 wc => ∃ (kq : Nat) (x19_2 : Bool), v19 = .bool x19_2 ∧ Aside0 (caesuraref12_Run.j0 kq l1 a0_0 x19_2 a0_0 l0_1 l0_2 = some (r1, r2)) ∧ Aside0 (kq ≤ k) ∧ Aside0 (wc.heap[gb572]? = some (.cells #[.int .i64 a0_0, (.slice A0_1 l0_1.length c0_1), (.slice A0_2 l0_2.length c0_2)] 24 (0, 0))) ∧ Aside0 (Below w.heap.size w wc))
 case first =>
  have H := HC3.out
  clear HC3
  by_cases c6 : a0_0 < 0
  ·rw [if_pos c6] at H
   have c6b0 : decide (a0_0 < 0) = true := decide_eq_true c6
   clear c6
   (first | rw [c6b0] | (simp only [i64_w, i32_w]; rw [c6b0]) | skip)
   have H' := Aside0.mk H
   clear H
   go_wp2
   repeat (go_quiet (fail); try go_wp2)
   go_meet
   case rel => exact ⟨_, (true), (by first | rfl | (simp; done) | (simp [*]; done)), H', ⟨by first | omega | exact Nat.le_refl _⟩, ⟨by (with_reducible repeat (first | refine blk_drewN ?_ _ | refine blk_drew ?_ | refine blk_alloc ?_ _)); exact BK572.out⟩, ⟨by repeat (first | (with_reducible first | exact HB.out | apply below_alloc | apply pw_below_drewN | apply below_drew1 | refine below_set ?_ GE572.out) | exact HB.out)⟩⟩
  ·rw [if_neg c6] at H
   have c6b0 : decide (a0_0 < 0) = false := decide_eq_false c6
   clear c6
   (first | rw [c6b0] | (simp only [i64_w, i32_w]; rw [c6b0]) | skip)
   have H' := Aside0.mk H
   clear H
   have hcz7_0 : w4.cell? ⟨gb572, 0, none⟩ = some (.int .i64 a0_0) := (blk_cell BK572.out 0).trans rfl
   have hcz7_1 : w4.cell? ⟨gb572, 1, none⟩ = some (.slice A0_1 l0_1.length c0_1) := (blk_cell BK572.out 1).trans rfl
   have hcz7_2 : w4.cell? ⟨gb572, 2, none⟩ = some (.slice A0_2 l0_2.length c0_2) := (blk_cell BK572.out 2).trans rfl
   have hfz7_0 := blk_frozen BK572.out 0
   have hfz7_1 := blk_frozen BK572.out 1
   have hfz7_2 := blk_frozen BK572.out 2
   go_wp2
   repeat (go_quiet (fail); try go_wp2)
   go_meet
   case rel => exact ⟨_, (decide (a0_0 ≥ (l0_1.length : Int))), (by first | rfl | (simp; done) | (simp [*]; done)), H', ⟨by first | omega | exact Nat.le_refl _⟩, ⟨by (with_reducible repeat (first | refine blk_drewN ?_ _ | refine blk_drew ?_ | refine blk_alloc ?_ _)); exact BK572.out⟩, ⟨by repeat (first | (with_reducible first | exact HB.out | apply below_alloc | apply pw_below_drewN | apply below_drew1 | refine below_set ?_ GE572.out) | exact HB.out)⟩⟩
 case rest =>
  clear HC3
  try clear c1
  try clear p2
  try clear c6
  try clear c6b0
  try clear hcz5_0
  try clear hcz5_1
  try clear hcz5_2
  try clear hcz7_0
  try clear hcz7_1
  try clear hcz7_2
  try clear hfz5_0
  try clear hfz5_1
  try clear hfz5_2
  try clear hfz7_0
  try clear hfz7_1
  try clear hfz7_2
  obtain ⟨kq, x19_2, rfl, HA, HJ2, BK572, HB⟩ := hcut
  cases kq with
  | zero => exact absurd HA.out (by simp [caesuraref12_Run.j0])
  | succ kj2 =>
   have H := HA.out
   clear HA
   simp only [caesuraref12_Run.j0] at H
   by_cases c8 : x19_2 = true
   ·subst c8
    have H1 : (some (([] : List Int), 1)) = some (r1, r2) := by rw [if_pos rfl] at H; exact H
    clear H
    have H := H1
    clear H1
    simp only [Option.some.injEq, Prod.mk.injEq] at H
    obtain ⟨rfl, rfl⟩ := H
    go_wp2
    repeat (go_quiet (fail); try go_wp2)
    go_ret2
    exact ⟨_, by first | rfl | (simp [errW_none, errW_some] <;> rfl) | (simp [*, errW_none, errW_some] <;> rfl), by first | exact Kd.R_nil _ _ _ _ _ | exact Kd.N_nil _ _ _ _ _ | exact Kd.V_nil _ _ _ _ _ | exact Kd.Q_nil _ _ _ _ _ | exact Kd.S_nil _ _ _ _ _, by repeat (first | (with_reducible first | exact HB.out | apply below_alloc | apply pw_below_drewN | apply below_drew1 | refine below_set ?_ GE572.out) | exact HB.out)⟩
   ·replace c8 := Bool.eq_false_iff.mpr c8
    subst c8
    have H1 : (caesuraref12_Run.l0 kj2 l1 a0_0 (([a0_0] : List Int)) 0 a0_0 l0_1 l0_2) = some (r1, r2) := by rw [if_neg (show ¬ (false = true) by decide)] at H; exact H
    clear H
    have H := H1
    clear H1
    obtain ⟨y573, hy573⟩ : ∃ y_ : List Int, y_ = (([a0_0] : List Int)) := ⟨_, rfl⟩
    replace H : (caesuraref12_Run.l0 kj2 l1 a0_0 y573 0 a0_0 l0_1 l0_2) = some (r1, r2) := by first | (rw [hy573]; with_reducible exact H) | (have H2_ := (Option.bind_some _ _).symm.trans H; rw [hy573]; with_reducible exact H2_) | (have H2_ := (Option.bind_some _ _).symm.trans H; with_reducible exact H2_) | with_reducible exact H | (rw [hy573]; exact H) | exact H
    have Ny573 := Aside0.mk hy573
    clear hy573
    have H' := Aside0.mk H
    clear H
    go_wp2_with (first | ((with_reducible refine gate_dst (N := 21) rfl ?_); (try (refine gate_guard (by rfl) ?_; dsimp only)); refine Kd.R_lit (Kd.int .i64) _ 3 ?hg (N := 21) ?hd (xs := ([a0_0] : List Int)) (inner := [.int .i64 a0_0]) (ok := fun _ => True) (okp := fun _ => True) ?hr ?hp (fun _ hk => hk) trivial (Below.refl _ _) (Nat.le_refl _) (by simp) ?_; (case hd => rfl); (case hg => rfl); (case hr => first | (go_simp; done) | (go_simp; rfl)); (case hp => exact (Reps.one (show Kd.M (Kd.int .i64) _ _ _ a0_0 [.int .i64 a0_0] from rfl) (Reps.none _ _))); intro v574 w9 ho10 hb hg_ hnew_; clear hg_ hnew_; (first | rw [← Ny573.out] at ho10 | (simp only [Int.reduceToNat] at ho10; rw [← Ny573.out] at ho10)); have n0_ := Aside0.mk (Kd.R_lower ho10 (below_size (by repeat (first | (with_reducible first | exact HB.out | apply below_alloc | apply pw_below_drewN | apply below_drew1 | refine below_set ?_ GE572.out) | exact HB.out)))); have n1_ := Aside0.mk (blk_below (g := gb572) (o := .cells #[.int .i64 a0_0, .slice A0_1 l0_1.length c0_1, .slice A0_2 l0_2.length c0_2] 24 (0, 0)) (by (with_reducible repeat (first | refine blk_drewN ?_ _ | refine blk_drew ?_ | refine blk_alloc ?_ _)); exact BK572.out) hb); have n2_ := Aside0.mk (below_step (by repeat (first | (with_reducible first | exact HB.out | apply below_alloc | apply pw_below_drewN | apply below_drew1 | refine below_set ?_ GE572.out) | exact HB.out)) hb); clear BK572; clear HB; have HO575 := n0_; have BK572 := n1_; have HB := n2_; clear n0_ n1_ n2_; clear hb ho10))
    repeat (go_quiet (first | ((with_reducible refine gate_dst (N := 21) rfl ?_); (try (refine gate_guard (by rfl) ?_; dsimp only)); refine Kd.R_lit (Kd.int .i64) _ 3 ?hg (N := 21) ?hd (xs := ([a0_0] : List Int)) (inner := [.int .i64 a0_0]) (ok := fun _ => True) (okp := fun _ => True) ?hr ?hp (fun _ hk => hk) trivial (Below.refl _ _) (Nat.le_refl _) (by simp) ?_; (case hd => rfl); (case hg => rfl); (case hr => first | (go_simp; done) | (go_simp; rfl)); (case hp => exact (Reps.one (show Kd.M (Kd.int .i64) _ _ _ a0_0 [.int .i64 a0_0] from rfl) (Reps.none _ _))); intro v574 w9 ho10 hb hg_ hnew_; clear hg_ hnew_; (first | rw [← Ny573.out] at ho10 | (simp only [Int.reduceToNat] at ho10; rw [← Ny573.out] at ho10)); have n0_ := Aside0.mk (Kd.R_lower ho10 (below_size (by repeat (first | (with_reducible first | exact HB.out | apply below_alloc | apply pw_below_drewN | apply below_drew1 | refine below_set ?_ GE572.out) | exact HB.out)))); have n1_ := Aside0.mk (blk_below (g := gb572) (o := .cells #[.int .i64 a0_0, .slice A0_1 l0_1.length c0_1, .slice A0_2 l0_2.length c0_2] 24 (0, 0)) (by (with_reducible repeat (first | refine blk_drewN ?_ _ | refine blk_drew ?_ | refine blk_alloc ?_ _)); exact BK572.out) hb); have n2_ := Aside0.mk (below_step (by repeat (first | (with_reducible first | exact HB.out | apply below_alloc | apply pw_below_drewN | apply below_drew1 | refine below_set ?_ GE572.out) | exact HB.out)) hb); clear BK572; clear HB; have HO575 := n0_; have BK572 := n1_; have HB := n2_; clear n0_ n1_ n2_; clear hb ho10)); try go_wp2_with (first | ((with_reducible refine gate_dst (N := 21) rfl ?_); (try (refine gate_guard (by rfl) ?_; dsimp only)); refine Kd.R_lit (Kd.int .i64) _ 3 ?hg (N := 21) ?hd (xs := ([a0_0] : List Int)) (inner := [.int .i64 a0_0]) (ok := fun _ => True) (okp := fun _ => True) ?hr ?hp (fun _ hk => hk) trivial (Below.refl _ _) (Nat.le_refl _) (by simp) ?_; (case hd => rfl); (case hg => rfl); (case hr => first | (go_simp; done) | (go_simp; rfl)); (case hp => exact (Reps.one (show Kd.M (Kd.int .i64) _ _ _ a0_0 [.int .i64 a0_0] from rfl) (Reps.none _ _))); intro v574 w9 ho10 hb hg_ hnew_; clear hg_ hnew_; (first | rw [← Ny573.out] at ho10 | (simp only [Int.reduceToNat] at ho10; rw [← Ny573.out] at ho10)); have n0_ := Aside0.mk (Kd.R_lower ho10 (below_size (by repeat (first | (with_reducible first | exact HB.out | apply below_alloc | apply pw_below_drewN | apply below_drew1 | refine below_set ?_ GE572.out) | exact HB.out)))); have n1_ := Aside0.mk (blk_below (g := gb572) (o := .cells #[.int .i64 a0_0, .slice A0_1 l0_1.length c0_1, .slice A0_2 l0_2.length c0_2] 24 (0, 0)) (by (with_reducible repeat (first | refine blk_drewN ?_ _ | refine blk_drew ?_ | refine blk_alloc ?_ _)); exact BK572.out) hb); have n2_ := Aside0.mk (below_step (by repeat (first | (with_reducible first | exact HB.out | apply below_alloc | apply pw_below_drewN | apply below_drew1 | refine below_set ?_ GE572.out) | exact HB.out)) hb); clear BK572; clear HB; have HO575 := n0_; have BK572 := n1_; have HB := n2_; clear n0_ n1_ n2_; clear hb ho10)))
    go_loopg [6, 7, 8] kj2 (fun kq v6 v7 v8 w' => ∃ (x6_2 : Int) (x7_2 : List Int) (x8_2 : Int), v6 = .int .i64 x6_2 ∧ v8 = .int .i64 x8_2 ∧ Aside0 (caesuraref12_Run.l0 kq l1 x6_2 x7_2 x8_2 a0_0 l0_1 l0_2 = some (r1, r2)) ∧ Aside0 (kq ≤ kj2) ∧ Aside0 (Kd.R (Kd.int .i64) 3 w' w.heap.size (fun _ => True) v7 x7_2) ∧ Aside0 (w'.heap[gb572]? = some (.cells #[.int .i64 a0_0, (.slice A0_1 l0_1.length c0_1), (.slice A0_2 l0_2.length c0_2)] 24 (0, 0))) ∧ Aside0 (Below w.heap.size w w'))
    case atStart => exact ⟨(a0_0), (y573), (0), (by first | rfl | (simp; done) | (simp [*]; done)), (by first | rfl | (simp; done) | (simp [*]; done)), H', ⟨Nat.le_refl _⟩, ⟨by (with_reducible repeat (first | apply Kd.R_alloc | apply Kd.R_drewN | apply Kd.R_drew)); exact HO575.out⟩, ⟨by (with_reducible repeat (first | refine blk_drewN ?_ _ | refine blk_drew ?_ | refine blk_alloc ?_ _)); exact BK572.out⟩, ⟨by repeat (first | (with_reducible first | exact HB.out | apply below_alloc | apply pw_below_drewN | apply below_drew1 | refine below_set ?_ GE572.out) | exact HB.out)⟩⟩
    case round =>
     clear H'
     try clear c1
     try clear p2
     try clear c6
     try clear c6b0
     try clear c8
     try clear c9
     try clear hcz5_0
     try clear hcz5_1
     try clear hcz5_2
     try clear hcz7_0
     try clear hcz7_1
     try clear hcz7_2
     try clear hfz5_0
     try clear hfz5_1
     try clear hfz5_2
     try clear hfz7_0
     try clear hfz7_1
     try clear hfz7_2
     try clear p2
     obtain ⟨x6_2, x7_2, x8_2, rfl, rfl, HA, HK2, HO_7, BK572, HB⟩ := hrel
     cases gk with
     | zero => exact absurd HA.out (by simp [caesuraref12_Run.l0])
     | succ k2 =>
      have H := HA.out
      clear HA
      simp only [caesuraref12_Run.l0] at H
      by_cases c11 : x8_2 < (l1.length : Int)
      ·rw [if_pos c11] at H
       have c11b0 : decide (x8_2 < (l1.length : Int)) = true := decide_eq_true c11
       clear c11
       have HC12 := Aside0.mk H
       clear H
       go_upto_region 8 with (fail)
       repeat (go_quiet (fail); go_upto_region 8 with (fail))
       go_cut [45] (fun v45 wc => ∃ (kq : Nat) (x45_11 : Bool), v45 = .bool x45_11 ∧ Aside0 (caesuraref12_Run.j2 kq l1 x6_2 x7_2 x8_2 x45_11 a0_0 l0_1 l0_2 = some (r1, r2)) ∧ Aside0 (kq ≤ k2) ∧ Aside0 (Kd.R (Kd.int .i64) 3 wc w.heap.size (fun _ => True) u7 x7_2) ∧ Aside0 (wc.heap[gb572]? = some (.cells #[.int .i64 a0_0, (.slice A0_1 l0_1.length c0_1), (.slice A0_2 l0_2.length c0_2)] 24 (0, 0))) ∧ Aside0 (Below w.heap.size w wc))
       case first =>
        have H := HC12.out
        clear HC12
        by_cases c13 : 0 ≤ x8_2
        ·rw [if_pos c13] at H
         have c13b0 : decide (0 ≤ x8_2) = true := decide_eq_true c13
         clear c13
         (first | rw [c13b0] | (simp only [i64_w, i32_w]; rw [c13b0]) | skip)
         by_cases c14 : (rd l1 x8_2) < 0
         ·rw [if_pos c14] at H
          have c14b0 : decide ((rd l1 x8_2) < 0) = true := decide_eq_true c14
          clear c14
          have H' := Aside0.mk H
          clear H
          have p576 : 0 ≤ (x8_2 : Int) := of_decide_eq_true (by first | (with_reducible assumption) | assumption)
          have q576 : x8_2 < (l1.length : Int) := of_decide_eq_true (by first | (with_reducible assumption) | assumption)
          obtain ⟨ad576, e576, hx576_0⟩ := Kd.at_int HR1.out x8_2 p576 q576
          cases e576
          replace hx576_0 := (HB.out.cell (World.block_lt_of_cell? w _ hx576_0)).trans hx576_0
          replace p576 := eq_true p576
          replace q576 := eq_true q576
          go_wp2
          repeat (go_quiet (fail); try go_wp2)
          go_meet
          case rel => exact ⟨_, (true), (by first | rfl | (simp; done) | (simp [*]; done)), H', ⟨by have := HJ2.out; have := HK2.out; first | omega | exact Nat.le_refl _⟩, ⟨by (with_reducible repeat (first | apply Kd.R_alloc | apply Kd.R_drewN | apply Kd.R_drew)); exact HO_7.out⟩, ⟨by (with_reducible repeat (first | refine blk_drewN ?_ _ | refine blk_drew ?_ | refine blk_alloc ?_ _)); exact BK572.out⟩, ⟨by repeat (first | (with_reducible first | exact HB.out | apply below_alloc | apply pw_below_drewN | apply below_drew1 | refine below_set ?_ GE572.out) | exact HB.out)⟩⟩
         ·rw [if_neg c14] at H
          have c14b0 : decide ((rd l1 x8_2) < 0) = false := decide_eq_false c14
          clear c14
          by_cases c15 : 0 ≤ x6_2
          ·rw [if_pos c15] at H
           have c15b0 : decide (0 ≤ x6_2) = true := decide_eq_true c15
           clear c15
           by_cases c16 : x6_2 < (l0_1.length : Int)
           ·rw [if_pos c16] at H
            have c16b0 : decide (x6_2 < (l0_1.length : Int)) = true := decide_eq_true c16
            clear c16
            have H' := Aside0.mk H
            clear H
            have p576 : 0 ≤ (x8_2 : Int) := of_decide_eq_true (by first | (with_reducible assumption) | assumption)
            have q576 : x8_2 < (l1.length : Int) := of_decide_eq_true (by first | (with_reducible assumption) | assumption)
            obtain ⟨ad576, e576, hx576_0⟩ := Kd.at_int HR1.out x8_2 p576 q576
            cases e576
            replace hx576_0 := (HB.out.cell (World.block_lt_of_cell? w _ hx576_0)).trans hx576_0
            replace p576 := eq_true p576
            replace q576 := eq_true q576
            have p577 : 0 ≤ (x8_2 : Int) := of_decide_eq_true (by first | (with_reducible assumption) | assumption)
            have q577 : x8_2 < (l1.length : Int) := of_decide_eq_true (by first | (with_reducible assumption) | assumption)
            obtain ⟨ad577, e577, hx577_0⟩ := Kd.at_int HR1.out x8_2 p577 q577
            obtain rfl : ad576 = ad577 := (by injection e577)
            replace hx577_0 := (HB.out.cell (World.block_lt_of_cell? w _ hx577_0)).trans hx577_0
            replace p577 := eq_true p577
            replace q577 := eq_true q577
            have hcz17_0 : wr.cell? ⟨gb572, 0, none⟩ = some (.int .i64 a0_0) := (blk_cell BK572.out 0).trans rfl
            have hcz17_1 : wr.cell? ⟨gb572, 1, none⟩ = some (.slice A0_1 l0_1.length c0_1) := (blk_cell BK572.out 1).trans rfl
            have hcz17_2 : wr.cell? ⟨gb572, 2, none⟩ = some (.slice A0_2 l0_2.length c0_2) := (blk_cell BK572.out 2).trans rfl
            have hfz17_0 := blk_frozen BK572.out 0
            have hfz17_1 := blk_frozen BK572.out 1
            have hfz17_2 := blk_frozen BK572.out 2
            have p578 : 0 ≤ (x6_2 : Int) := of_decide_eq_true (by first | (with_reducible assumption) | assumption)
            have q578 : x6_2 < (l0_1.length : Int) := of_decide_eq_true (by first | (with_reducible assumption) | assumption)
            obtain ⟨ad578, A578_0, c578_0, e578, hx578_0, hl578_0, hi578_0⟩ := at_L1 HR0_1.out x6_2 p578 q578
            cases e578
            replace hx578_0 := (HB.out.cell (World.block_lt_of_cell? w _ hx578_0)).trans hx578_0
            have HR578_0 := Aside0.mk hi578_0
            have HC578_0 := Aside0.mk hl578_0
            clear hi578_0 hl578_0
            replace p578 := eq_true p578
            replace q578 := eq_true q578
            go_wp2
            repeat (go_quiet (fail); try go_wp2)
            go_meet
            case rel => exact ⟨_, (decide ((rd l1 x8_2) ≥ ((rd_L1 l0_1 x6_2).length : Int))), (by first | rfl | (simp; done) | (simp [*]; done)), H', ⟨by have := HJ2.out; have := HK2.out; first | omega | exact Nat.le_refl _⟩, ⟨by (with_reducible repeat (first | apply Kd.R_alloc | apply Kd.R_drewN | apply Kd.R_drew)); exact HO_7.out⟩, ⟨by (with_reducible repeat (first | refine blk_drewN ?_ _ | refine blk_drew ?_ | refine blk_alloc ?_ _)); exact BK572.out⟩, ⟨by repeat (first | (with_reducible first | exact HB.out | apply below_alloc | apply pw_below_drewN | apply below_drew1 | refine below_set ?_ GE572.out) | exact HB.out)⟩⟩
           ·rw [if_neg c16] at H
            exact absurd H (by simp)
          ·rw [if_neg c15] at H
           exact absurd H (by simp)
        ·rw [if_neg c13] at H
         exact absurd H (by simp)
       case rest =>
        clear HC12
        try clear c1
        try clear p2
        try clear c5
        try clear p5
        try clear q5
        try clear hx5
        try clear c6
        try clear c6b0
        try clear c8
        try clear c9
        try clear c11
        try clear c11b0
        try clear c13
        try clear c13b0
        try clear c14
        try clear c14b0
        try clear c15
        try clear c15b0
        try clear c16
        try clear c16b0
        try clear hcz17_0
        try clear hcz17_1
        try clear hcz17_2
        try clear hcz5_0
        try clear hcz5_1
        try clear hcz5_2
        try clear hcz7_0
        try clear hcz7_1
        try clear hcz7_2
        try clear hfz17_0
        try clear hfz17_1
        try clear hfz17_2
        try clear hfz5_0
        try clear hfz5_1
        try clear hfz5_2
        try clear hfz7_0
        try clear hfz7_1
        try clear hfz7_2
        try clear hx576_0
        try clear hx577_0
        try clear hx578_0
        try clear p2
        try clear p576
        try clear p577
        try clear p578
        try clear q576
        try clear q577
        try clear q578
        obtain ⟨kq, x45_11, rfl, HA, HJ11, HO_7, BK572, HB⟩ := hcut
        cases kq with
        | zero => exact absurd HA.out (by simp [caesuraref12_Run.j2])
        | succ kj11 =>
         have H := HA.out
         clear HA
         simp only [caesuraref12_Run.j2] at H
         by_cases c18 : x45_11 = true
         ·subst c18
          have H1 : (some (([] : List Int), 1)) = some (r1, r2) := by rw [if_pos rfl] at H; exact H
          clear H
          have H := H1
          clear H1
          simp only [Option.some.injEq, Prod.mk.injEq] at H
          obtain ⟨rfl, rfl⟩ := H
          go_wp2
          repeat (go_quiet (fail); try go_wp2)
          go_ret2
          exact ⟨_, by first | rfl | (simp [errW_none, errW_some] <;> rfl) | (simp [*, errW_none, errW_some] <;> rfl), by first | exact Kd.R_nil _ _ _ _ _ | exact Kd.N_nil _ _ _ _ _ | exact Kd.V_nil _ _ _ _ _ | exact Kd.Q_nil _ _ _ _ _ | exact Kd.S_nil _ _ _ _ _, by repeat (first | (with_reducible first | exact HB.out | apply below_alloc | apply pw_below_drewN | apply below_drew1 | refine below_set ?_ GE572.out) | exact HB.out)⟩
         ·replace c18 := Bool.eq_false_iff.mpr c18
          subst c18
          have H1 : (if 0 ≤ x6_2 then (if x6_2 < (l0_1.length : Int) then (if 0 ≤ x8_2 then (if x8_2 < (l1.length : Int) then (if 0 ≤ (rd l1 x8_2) then (if (rd l1 x8_2) < ((rd_L1 l0_1 x6_2).length : Int) then (if (rd (rd_L1 l0_1 x6_2) (rd l1 x8_2)) < 0 then (some (([] : List Int), 1)) else (if (rd (rd_L1 l0_1 x6_2) (rd l1 x8_2)) ≥ (l0_1.length : Int) then (some (([] : List Int), 1)) else (if x7_2.length < 17592186044416 then (caesuraref12_Run.l0 kj11 l1 (rd (rd_L1 l0_1 x6_2) (rd l1 x8_2)) (x7_2 ++ [rd (rd_L1 l0_1 x6_2) (rd l1 x8_2)]) (wrap64 (x8_2 + 1)) a0_0 l0_1 l0_2) else (none)))) else (none)) else (none)) else (none)) else (none)) else (none)) else (none)) = some (r1, r2) := by rw [if_neg (show ¬ (false = true) by decide)] at H; exact H
          clear H
          have H := H1
          clear H1
          by_cases c19 : 0 ≤ x6_2
          ·rw [if_pos c19] at H
           have c19b0 : decide (0 ≤ x6_2) = true := decide_eq_true c19
           clear c19
           by_cases c20 : x6_2 < (l0_1.length : Int)
           ·rw [if_pos c20] at H
            have c20b0 : decide (x6_2 < (l0_1.length : Int)) = true := decide_eq_true c20
            clear c20
            by_cases c21 : 0 ≤ x8_2
            ·rw [if_pos c21] at H
             have c21b0 : decide (0 ≤ x8_2) = true := decide_eq_true c21
             clear c21
             by_cases c22 : x8_2 < (l1.length : Int)
             ·rw [if_pos c22] at H
              have c22b0 : decide (x8_2 < (l1.length : Int)) = true := decide_eq_true c22
              clear c22
              by_cases c23 : 0 ≤ (rd l1 x8_2)
              ·rw [if_pos c23] at H
               have c23b0 : decide (0 ≤ (rd l1 x8_2)) = true := decide_eq_true c23
               clear c23
               by_cases c24 : (rd l1 x8_2) < ((rd_L1 l0_1 x6_2).length : Int)
               ·rw [if_pos c24] at H
                have c24b0 : decide ((rd l1 x8_2) < ((rd_L1 l0_1 x6_2).length : Int)) = true := decide_eq_true c24
                clear c24
                by_cases c25 : (rd (rd_L1 l0_1 x6_2) (rd l1 x8_2)) < 0
                ·rw [if_pos c25] at H
                 have c25b0 : decide ((rd (rd_L1 l0_1 x6_2) (rd l1 x8_2)) < 0) = true := decide_eq_true c25
                 clear c25
                 simp only [Option.some.injEq, Prod.mk.injEq] at H
                 obtain ⟨rfl, rfl⟩ := H
                 have hcz26_0 : wc.cell? ⟨gb572, 0, none⟩ = some (.int .i64 a0_0) := (blk_cell BK572.out 0).trans rfl
                 have hcz26_1 : wc.cell? ⟨gb572, 1, none⟩ = some (.slice A0_1 l0_1.length c0_1) := (blk_cell BK572.out 1).trans rfl
                 have hcz26_2 : wc.cell? ⟨gb572, 2, none⟩ = some (.slice A0_2 l0_2.length c0_2) := (blk_cell BK572.out 2).trans rfl
                 have hfz26_0 := blk_frozen BK572.out 0
                 have hfz26_1 := blk_frozen BK572.out 1
                 have hfz26_2 := blk_frozen BK572.out 2
                 have p579 : 0 ≤ (x6_2 : Int) := of_decide_eq_true (by first | (with_reducible assumption) | assumption)
                 have q579 : x6_2 < (l0_1.length : Int) := of_decide_eq_true (by first | (with_reducible assumption) | assumption)
                 obtain ⟨ad579, A579_0, c579_0, e579, hx579_0, hl579_0, hi579_0⟩ := at_L1 HR0_1.out x6_2 p579 q579
                 cases e579
                 replace hx579_0 := (HB.out.cell (World.block_lt_of_cell? w _ hx579_0)).trans hx579_0
                 have HR579_0 := Aside0.mk hi579_0
                 have HC579_0 := Aside0.mk hl579_0
                 clear hi579_0 hl579_0
                 replace p579 := eq_true p579
                 replace q579 := eq_true q579
                 have p580 : 0 ≤ (x8_2 : Int) := of_decide_eq_true (by first | (with_reducible assumption) | assumption)
                 have q580 : x8_2 < (l1.length : Int) := of_decide_eq_true (by first | (with_reducible assumption) | assumption)
                 obtain ⟨ad580, e580, hx580_0⟩ := Kd.at_int HR1.out x8_2 p580 q580
                 cases e580
                 replace hx580_0 := (HB.out.cell (World.block_lt_of_cell? w _ hx580_0)).trans hx580_0
                 replace p580 := eq_true p580
                 replace q580 := eq_true q580
                 have p581 : 0 ≤ ((rd l1 x8_2) : Int) := of_decide_eq_true (by first | (with_reducible assumption) | assumption)
                 have q581 : (rd l1 x8_2) < ((rd_L1 l0_1 x6_2).length : Int) := of_decide_eq_true (by first | (with_reducible assumption) | assumption)
                 obtain ⟨ad581, e581, hx581_0⟩ := Kd.at_int HR579_0.out (rd l1 x8_2) p581 q581
                 cases e581
                 replace hx581_0 := (HB.out.cell (World.block_lt_of_cell? w _ hx581_0)).trans hx581_0
                 replace p581 := eq_true p581
                 replace q581 := eq_true q581
                 go_wp2
                 repeat (go_quiet (fail); try go_wp2)
                 go_ret2
                 exact ⟨_, by first | rfl | (simp [errW_none, errW_some] <;> rfl) | (simp [*, errW_none, errW_some] <;> rfl), by first | exact Kd.R_nil _ _ _ _ _ | exact Kd.N_nil _ _ _ _ _ | exact Kd.V_nil _ _ _ _ _ | exact Kd.Q_nil _ _ _ _ _ | exact Kd.S_nil _ _ _ _ _, by repeat (first | (with_reducible first | exact HB.out | apply below_alloc | apply pw_below_drewN | apply below_drew1 | refine below_set ?_ GE572.out) | exact HB.out)⟩
                ·rw [if_neg c25] at H
                 have c25b0 : decide ((rd (rd_L1 l0_1 x6_2) (rd l1 x8_2)) < 0) = false := decide_eq_false c25
                 clear c25
                 by_cases c27 : (rd (rd_L1 l0_1 x6_2) (rd l1 x8_2)) ≥ (l0_1.length : Int)
                 ·rw [if_pos c27] at H
                  have c27b0 : decide ((l0_1.length : Int) ≤ (rd (rd_L1 l0_1 x6_2) (rd l1 x8_2))) = true := decide_eq_true c27
                  clear c27
                  simp only [Option.some.injEq, Prod.mk.injEq] at H
                  obtain ⟨rfl, rfl⟩ := H
                  have hcz28_0 : wc.cell? ⟨gb572, 0, none⟩ = some (.int .i64 a0_0) := (blk_cell BK572.out 0).trans rfl
                  have hcz28_1 : wc.cell? ⟨gb572, 1, none⟩ = some (.slice A0_1 l0_1.length c0_1) := (blk_cell BK572.out 1).trans rfl
                  have hcz28_2 : wc.cell? ⟨gb572, 2, none⟩ = some (.slice A0_2 l0_2.length c0_2) := (blk_cell BK572.out 2).trans rfl
                  have hfz28_0 := blk_frozen BK572.out 0
                  have hfz28_1 := blk_frozen BK572.out 1
                  have hfz28_2 := blk_frozen BK572.out 2
                  have p579 : 0 ≤ (x6_2 : Int) := of_decide_eq_true (by first | (with_reducible assumption) | assumption)
                  have q579 : x6_2 < (l0_1.length : Int) := of_decide_eq_true (by first | (with_reducible assumption) | assumption)
                  obtain ⟨ad579, A579_0, c579_0, e579, hx579_0, hl579_0, hi579_0⟩ := at_L1 HR0_1.out x6_2 p579 q579
                  cases e579
                  replace hx579_0 := (HB.out.cell (World.block_lt_of_cell? w _ hx579_0)).trans hx579_0
                  have HR579_0 := Aside0.mk hi579_0
                  have HC579_0 := Aside0.mk hl579_0
                  clear hi579_0 hl579_0
                  replace p579 := eq_true p579
                  replace q579 := eq_true q579
                  have p580 : 0 ≤ (x8_2 : Int) := of_decide_eq_true (by first | (with_reducible assumption) | assumption)
                  have q580 : x8_2 < (l1.length : Int) := of_decide_eq_true (by first | (with_reducible assumption) | assumption)
                  obtain ⟨ad580, e580, hx580_0⟩ := Kd.at_int HR1.out x8_2 p580 q580
                  cases e580
                  replace hx580_0 := (HB.out.cell (World.block_lt_of_cell? w _ hx580_0)).trans hx580_0
                  replace p580 := eq_true p580
                  replace q580 := eq_true q580
                  have p581 : 0 ≤ ((rd l1 x8_2) : Int) := of_decide_eq_true (by first | (with_reducible assumption) | assumption)
                  have q581 : (rd l1 x8_2) < ((rd_L1 l0_1 x6_2).length : Int) := of_decide_eq_true (by first | (with_reducible assumption) | assumption)
                  obtain ⟨ad581, e581, hx581_0⟩ := Kd.at_int HR579_0.out (rd l1 x8_2) p581 q581
                  cases e581
                  replace hx581_0 := (HB.out.cell (World.block_lt_of_cell? w _ hx581_0)).trans hx581_0
                  replace p581 := eq_true p581
                  replace q581 := eq_true q581
                  go_wp2
                  repeat (go_quiet (fail); try go_wp2)
                  go_ret2
                  exact ⟨_, by first | rfl | (simp [errW_none, errW_some] <;> rfl) | (simp [*, errW_none, errW_some] <;> rfl), by first | exact Kd.R_nil _ _ _ _ _ | exact Kd.N_nil _ _ _ _ _ | exact Kd.V_nil _ _ _ _ _ | exact Kd.Q_nil _ _ _ _ _ | exact Kd.S_nil _ _ _ _ _, by repeat (first | (with_reducible first | exact HB.out | apply below_alloc | apply pw_below_drewN | apply below_drew1 | refine below_set ?_ GE572.out) | exact HB.out)⟩
                 ·rw [if_neg c27] at H
                  have c27b0 : decide ((l0_1.length : Int) ≤ (rd (rd_L1 l0_1 x6_2) (rd l1 x8_2))) = false := decide_eq_false c27
                  clear c27
                  by_cases c29 : x7_2.length < 17592186044416
                  ·rw [if_pos c29] at H
                   have LMc29 := Aside0.mk c29
                   clear c29
                   obtain ⟨y582, hy582⟩ : ∃ y_ : List Int, y_ = (x7_2 ++ [rd (rd_L1 l0_1 x6_2) (rd l1 x8_2)]) := ⟨_, rfl⟩
                   replace H : (caesuraref12_Run.l0 kj11 l1 (rd (rd_L1 l0_1 x6_2) (rd l1 x8_2)) y582 (wrap64 (x8_2 + 1)) a0_0 l0_1 l0_2) = some (r1, r2) := by first | (rw [hy582]; with_reducible exact H) | (have H2_ := (Option.bind_some _ _).symm.trans H; rw [hy582]; with_reducible exact H2_) | (have H2_ := (Option.bind_some _ _).symm.trans H; with_reducible exact H2_) | with_reducible exact H | (rw [hy582]; exact H) | exact H
                   have Ny582 := Aside0.mk hy582
                   clear hy582
                   have H' := Aside0.mk H
                   clear H
                   have hcz30_0 : wc.cell? ⟨gb572, 0, none⟩ = some (.int .i64 a0_0) := (blk_cell BK572.out 0).trans rfl
                   have hcz30_1 : wc.cell? ⟨gb572, 1, none⟩ = some (.slice A0_1 l0_1.length c0_1) := (blk_cell BK572.out 1).trans rfl
                   have hcz30_2 : wc.cell? ⟨gb572, 2, none⟩ = some (.slice A0_2 l0_2.length c0_2) := (blk_cell BK572.out 2).trans rfl
                   have hfz30_0 := blk_frozen BK572.out 0
                   have hfz30_1 := blk_frozen BK572.out 1
                   have hfz30_2 := blk_frozen BK572.out 2
                   have p579 : 0 ≤ (x6_2 : Int) := of_decide_eq_true (by first | (with_reducible assumption) | assumption)
                   have q579 : x6_2 < (l0_1.length : Int) := of_decide_eq_true (by first | (with_reducible assumption) | assumption)
                   obtain ⟨ad579, A579_0, c579_0, e579, hx579_0, hl579_0, hi579_0⟩ := at_L1 HR0_1.out x6_2 p579 q579
                   cases e579
                   replace hx579_0 := (HB.out.cell (World.block_lt_of_cell? w _ hx579_0)).trans hx579_0
                   have HR579_0 := Aside0.mk hi579_0
                   have HC579_0 := Aside0.mk hl579_0
                   clear hi579_0 hl579_0
                   replace p579 := eq_true p579
                   replace q579 := eq_true q579
                   have p580 : 0 ≤ (x8_2 : Int) := of_decide_eq_true (by first | (with_reducible assumption) | assumption)
                   have q580 : x8_2 < (l1.length : Int) := of_decide_eq_true (by first | (with_reducible assumption) | assumption)
                   obtain ⟨ad580, e580, hx580_0⟩ := Kd.at_int HR1.out x8_2 p580 q580
                   cases e580
                   replace hx580_0 := (HB.out.cell (World.block_lt_of_cell? w _ hx580_0)).trans hx580_0
                   replace p580 := eq_true p580
                   replace q580 := eq_true q580
                   have p581 : 0 ≤ ((rd l1 x8_2) : Int) := of_decide_eq_true (by first | (with_reducible assumption) | assumption)
                   have q581 : (rd l1 x8_2) < ((rd_L1 l0_1 x6_2).length : Int) := of_decide_eq_true (by first | (with_reducible assumption) | assumption)
                   obtain ⟨ad581, e581, hx581_0⟩ := Kd.at_int HR579_0.out (rd l1 x8_2) p581 q581
                   cases e581
                   replace hx581_0 := (HB.out.cell (World.block_lt_of_cell? w _ hx581_0)).trans hx581_0
                   replace p581 := eq_true p581
                   replace q581 := eq_true q581
                   go_wp2_with (first | ((with_reducible refine gate_builtin (b := .append) (xs := #[.tmp 66, .tmp 68]) rfl ?_); (try (refine gate_guard (by rfl) ?_; dsimp only)); at_builtin; refine Kd.R_append (Kd.int .i64) (w0 := w) w.heap.size rfl (.tmp 66) (.tmp 68) 25 3 (.int .i64 0) 8 rfl Tryd.underlying25 info3 rfl (by decide) (by omega) u7 x7_2 (rd (rd_L1 l0_1 x6_2) (rd l1 x8_2)) [.int .i64 (rd (rd_L1 l0_1 x6_2) (rd l1 x8_2))] (fun _ => True) (fun _ => False) rfl rfl ?aP (fun _ hk => hk.elim) ?aF ?aO ?aB ?aS ?aL ?_; (case aP => exact rfl); (case aB => exact (by repeat (first | (with_reducible first | exact HB.out | apply below_alloc | apply pw_below_drewN | apply below_drew1 | refine below_set ?_ GE572.out) | exact HB.out))); (case aF => exact (fun _ _ => trivial)); (case aO => exact (by (with_reducible repeat (first | apply Kd.R_alloc | apply Kd.R_drewN | apply Kd.R_drew)); exact HO_7.out)); (case aS => exact (below_size (by repeat (first | (with_reducible first | exact HB.out | apply below_alloc | apply pw_below_drewN | apply below_drew1 | refine below_set ?_ GE572.out) | exact HB.out)))); (case aL => have := LMc29.out; omega); intro v583 w31 ho hb hg hat; rw [← Ny582.out] at ho; have n0_ := Aside0.mk (blk_grown (g := gb572) (o := .cells #[.int .i64 a0_0, .slice (some ad579) l0_1.length c0_1, .slice A0_2 l0_2.length c0_2] 24 (0, 0)) (by (with_reducible repeat (first | refine blk_drewN ?_ _ | refine blk_drew ?_ | refine blk_alloc ?_ _)); exact BK572.out) hg (Kd.R_ne HO_7.out BK572.out (by decide))); have n1_ := Aside0.mk (hb); have n2_ := Aside0.mk (ho); clear BK572; clear HB; clear HO_7; have BK572 := n0_; have HB := n1_; have HO584 := n2_; clear n0_ n1_ n2_; clear ho hb hg hat))
                   repeat (go_quiet (first | ((with_reducible refine gate_builtin (b := .append) (xs := #[.tmp 66, .tmp 68]) rfl ?_); (try (refine gate_guard (by rfl) ?_; dsimp only)); at_builtin; refine Kd.R_append (Kd.int .i64) (w0 := w) w.heap.size rfl (.tmp 66) (.tmp 68) 25 3 (.int .i64 0) 8 rfl Tryd.underlying25 info3 rfl (by decide) (by omega) u7 x7_2 (rd (rd_L1 l0_1 x6_2) (rd l1 x8_2)) [.int .i64 (rd (rd_L1 l0_1 x6_2) (rd l1 x8_2))] (fun _ => True) (fun _ => False) rfl rfl ?aP (fun _ hk => hk.elim) ?aF ?aO ?aB ?aS ?aL ?_; (case aP => exact rfl); (case aB => exact (by repeat (first | (with_reducible first | exact HB.out | apply below_alloc | apply pw_below_drewN | apply below_drew1 | refine below_set ?_ GE572.out) | exact HB.out))); (case aF => exact (fun _ _ => trivial)); (case aO => exact (by (with_reducible repeat (first | apply Kd.R_alloc | apply Kd.R_drewN | apply Kd.R_drew)); exact HO_7.out)); (case aS => exact (below_size (by repeat (first | (with_reducible first | exact HB.out | apply below_alloc | apply pw_below_drewN | apply below_drew1 | refine below_set ?_ GE572.out) | exact HB.out)))); (case aL => have := LMc29.out; omega); intro v583 w31 ho hb hg hat; rw [← Ny582.out] at ho; have n0_ := Aside0.mk (blk_grown (g := gb572) (o := .cells #[.int .i64 a0_0, .slice (some ad579) l0_1.length c0_1, .slice A0_2 l0_2.length c0_2] 24 (0, 0)) (by (with_reducible repeat (first | refine blk_drewN ?_ _ | refine blk_drew ?_ | refine blk_alloc ?_ _)); exact BK572.out) hg (Kd.R_ne HO_7.out BK572.out (by decide))); have n1_ := Aside0.mk (hb); have n2_ := Aside0.mk (ho); clear BK572; clear HB; clear HO_7; have BK572 := n0_; have HB := n1_; have HO584 := n2_; clear n0_ n1_ n2_; clear ho hb hg hat)); try go_wp2_with (first | ((with_reducible refine gate_builtin (b := .append) (xs := #[.tmp 66, .tmp 68]) rfl ?_); (try (refine gate_guard (by rfl) ?_; dsimp only)); at_builtin; refine Kd.R_append (Kd.int .i64) (w0 := w) w.heap.size rfl (.tmp 66) (.tmp 68) 25 3 (.int .i64 0) 8 rfl Tryd.underlying25 info3 rfl (by decide) (by omega) u7 x7_2 (rd (rd_L1 l0_1 x6_2) (rd l1 x8_2)) [.int .i64 (rd (rd_L1 l0_1 x6_2) (rd l1 x8_2))] (fun _ => True) (fun _ => False) rfl rfl ?aP (fun _ hk => hk.elim) ?aF ?aO ?aB ?aS ?aL ?_; (case aP => exact rfl); (case aB => exact (by repeat (first | (with_reducible first | exact HB.out | apply below_alloc | apply pw_below_drewN | apply below_drew1 | refine below_set ?_ GE572.out) | exact HB.out))); (case aF => exact (fun _ _ => trivial)); (case aO => exact (by (with_reducible repeat (first | apply Kd.R_alloc | apply Kd.R_drewN | apply Kd.R_drew)); exact HO_7.out)); (case aS => exact (below_size (by repeat (first | (with_reducible first | exact HB.out | apply below_alloc | apply pw_below_drewN | apply below_drew1 | refine below_set ?_ GE572.out) | exact HB.out)))); (case aL => have := LMc29.out; omega); intro v583 w31 ho hb hg hat; rw [← Ny582.out] at ho; have n0_ := Aside0.mk (blk_grown (g := gb572) (o := .cells #[.int .i64 a0_0, .slice (some ad579) l0_1.length c0_1, .slice A0_2 l0_2.length c0_2] 24 (0, 0)) (by (with_reducible repeat (first | refine blk_drewN ?_ _ | refine blk_drew ?_ | refine blk_alloc ?_ _)); exact BK572.out) hg (Kd.R_ne HO_7.out BK572.out (by decide))); have n1_ := Aside0.mk (hb); have n2_ := Aside0.mk (ho); clear BK572; clear HB; clear HO_7; have BK572 := n0_; have HB := n1_; have HO584 := n2_; clear n0_ n1_ n2_; clear ho hb hg hat)))
                   go_roundg kj11
                   case measure => have := HJ2.out; have := HK2.out; have := HJ11.out; omega
                   case rel => exact ⟨(rd (rd_L1 l0_1 x6_2) (rd l1 x8_2)), (y582), (wrap64 (x8_2 + 1)), (by first | rfl | (simp; done) | (simp [*]; done)), (by first | rfl | (simp; done) | (simp [*]; done)), H', ⟨by have := HJ2.out; have := HK2.out; have := HJ11.out; omega⟩, ⟨by (with_reducible repeat (first | apply Kd.R_alloc | apply Kd.R_drewN | apply Kd.R_drew)); exact HO584.out⟩, ⟨by (with_reducible repeat (first | refine blk_drewN ?_ _ | refine blk_drew ?_ | refine blk_alloc ?_ _)); exact BK572.out⟩, ⟨by repeat (first | (with_reducible first | exact HB.out | apply below_alloc | apply pw_below_drewN | apply below_drew1 | refine below_set ?_ GE572.out) | exact HB.out)⟩⟩
                  ·rw [if_neg c29] at H
                   exact absurd H (by simp)
               ·rw [if_neg c24] at H
                exact absurd H (by simp)
              ·rw [if_neg c23] at H
               exact absurd H (by simp)
             ·rw [if_neg c22] at H
              exact absurd H (by simp)
            ·rw [if_neg c21] at H
             exact absurd H (by simp)
           ·rw [if_neg c20] at H
            exact absurd H (by simp)
          ·rw [if_neg c19] at H
           exact absurd H (by simp)
      ·rw [if_neg c11] at H
       have c11b0 : decide (x8_2 < (l1.length : Int)) = false := decide_eq_false c11
       clear c11
       simp only [Option.some.injEq, Prod.mk.injEq] at H
       obtain ⟨rfl, rfl⟩ := H
       go_wp2
       repeat (go_quiet (fail); try go_wp2)
       go_ret2
       exact ⟨_, by first | rfl | (simp [errW_none, errW_some] <;> rfl) | (simp [*, errW_none, errW_some] <;> rfl), by (with_reducible repeat (first | apply Kd.R_alloc | apply Kd.R_drewN | apply Kd.R_drew)); exact HO_7.out, by repeat (first | (with_reducible first | exact HB.out | apply below_alloc | apply pw_below_drewN | apply below_drew1 | refine below_set ?_ GE572.out) | exact HB.out)⟩
end Go.Proofs.YtfonajakaimnoaaDoor.Lib
