/- PlacesReads: whatever positions, number of symbols and word are handed in: Check, Match and Reverse answer as the document does, what was handed in is as it was, and written over and asked again it is answered as what it is now: the law's call returns true and leaves what it was handed as it was. The package's errors are laid as their initialisers lay them. -/
import Derived.Test.YtfonajakaimnoaaDoorPR0
import Derived.Test.YtfonajakaimnoaaDoorPR2
import Derived.Test.YtfonajakaimnoaaDoorRows
import Derived.LaidLaws
import Derived.LaidEql
import Derived.WideLaws
import Derived.Test.YtfonajakaimnoaaDoorWWords
import Derived.ProofKit
import Derived.Deep.Slices
import Derived.SizedLaws
import Derived.Test.YtfonajakaimnoaaDoorCards
import Derived.Test.YtfonajakaimnoaaDoorTie
import Derived.WalkKit
import Derived.OpenShut
import Derived.Deep.DeepHandedRow
import Derived.Below

namespace Go.Proofs.YtfonajakaimnoaaDoor.Lib
open Go.RowKit Go.Proofs.YtfonajakaimnoaaDoorW.PrintWords Go.Proofs.YtfonajakaimnoaaDoorW.PrintLast Go.Proofs.YtfonajakaimnoaaDoorW.PrintMore
attribute [local go_sem] max2_int min2_int max_two min_two max_three min_three max_four min_four   -- for this text's walks alone
set_option linter.unusedVariables false
set_option linter.unusedSimpArgs false

/-! ### caesuraref0_SamePositions: function 25 -/
def caesuraref0_SamePositions.f (k : Nat) (l0_0 : List (List Int)) (l0_1 : List Int) (l0_2 : List Int) (l0_3 : List (List Int)) (a0_4 : Bool) (l1_0 : List (List Int)) (l1_1 : List Int) (l1_2 : List Int) (l1_3 : List (List Int)) (a1_4 : Bool) : Option (Bool) := (caesuraref0_SameRows.f k l0_0 l1_0).bind fun t287 => ((caesuraref0_SameInts.f k l0_1 l1_1).bind fun t288 => ((caesuraref0_SameInts.f k l0_2 l1_2).bind fun t289 => ((caesuraref0_SameRows.f k l0_3 l1_3).bind fun t290 => (if t287 = true then (if t288 = true then (if t289 = true then (if t290 = true then (some (a0_4 == a1_4)) else (some false)) else (some false)) else (some false)) else (some false)))))
theorem caesuraref0_SamePositions.mono : ∀ a0 a1 a2 a3 a4 a5 a6 a7 a8 a9 k, LeO (caesuraref0_SamePositions.f k a0 a1 a2 a3 a4 a5 a6 a7 a8 a9) (caesuraref0_SamePositions.f (k + 1) a0 a1 a2 a3 a4 a5 a6 a7 a8 a9) := by
 intro a0 a1 a2 a3 a4 a5 a6 a7 a8 a9 k
 unfold caesuraref0_SamePositions.f
 repeat' first
   | (with_reducible exact caesuraref0_SameInts.mono _ _ _)
   | (with_reducible exact caesuraref0_SameRows.mono _ _ _)
   | (with_reducible exact LeO.refl _)
   | (with_reducible exact LeO.none _)
   | (with_reducible refine LeO.ite ?_ ?_)
   | (with_reducible refine LeO.bind ?_ (fun _ => ?_))
   | exact caesuraref0_SameInts.mono _ _ _
   | exact caesuraref0_SameRows.mono _ _ _
   | exact LeO.none _
   | refine LeO.ite ?_ ?_
   | refine LeO.bind ?_ (fun _ => ?_)
set_option maxHeartbeats 8000000 in
set_option maxRecDepth 100000 in
theorem caesuraref0_SamePositions.calls (k : Nat) (A0_0 : Option Addr) (c0_0 : Nat) (l0_0 : List (List Int)) (A0_1 : Option Addr) (c0_1 : Nat) (l0_1 : List Int) (A0_2 : Option Addr) (c0_2 : Nat) (l0_2 : List Int) (A0_3 : Option Addr) (c0_3 : Nat) (l0_3 : List (List Int)) (a0_4 : Bool) (A1_0 : Option Addr) (c1_0 : Nat) (l1_0 : List (List Int)) (A1_1 : Option Addr) (c1_1 : Nat) (l1_1 : List Int) (A1_2 : Option Addr) (c1_2 : Nat) (l1_2 : List Int) (A1_3 : Option Addr) (c1_3 : Nat) (l1_3 : List (List Int)) (a1_4 : Bool) (r : Bool) (w : World) (hr0_0 : Kd.C (Kd.slice 3 (Kd.int .i64)) w A0_0 l0_0.length l0_0) (hc0_0 : l0_0.length ≤ c0_0) (hr0_1 : Kd.C (Kd.int .i64) w A0_1 l0_1.length l0_1) (hc0_1 : l0_1.length ≤ c0_1) (hr0_2 : Kd.C (Kd.int .i64) w A0_2 l0_2.length l0_2) (hc0_2 : l0_2.length ≤ c0_2) (hr0_3 : Kd.C (Kd.slice 3 (Kd.int .i64)) w A0_3 l0_3.length l0_3) (hc0_3 : l0_3.length ≤ c0_3) (hr1_0 : Kd.C (Kd.slice 3 (Kd.int .i64)) w A1_0 l1_0.length l1_0) (hc1_0 : l1_0.length ≤ c1_0) (hr1_1 : Kd.C (Kd.int .i64) w A1_1 l1_1.length l1_1) (hc1_1 : l1_1.length ≤ c1_1) (hr1_2 : Kd.C (Kd.int .i64) w A1_2 l1_2.length l1_2) (hc1_2 : l1_2.length ≤ c1_2) (hr1_3 : Kd.C (Kd.slice 3 (Kd.int .i64)) w A1_3 l1_3.length l1_3) (hc1_3 : l1_3.length ≤ c1_3) (h : caesuraref0_SamePositions.f k l0_0 l0_1 l0_2 l0_3 a0_4 l1_0 l1_1 l1_2 l1_3 a1_4 = some r) :
  Calls Tryd.prog 25 #[.agg #[.slice A0_0 l0_0.length c0_0, .slice A0_1 l0_1.length c0_1, .slice A0_2 l0_2.length c0_2, .slice A0_3 l0_3.length c0_3, .bool a0_4], .agg #[.slice A1_0 l1_0.length c1_0, .slice A1_1 l1_1.length c1_1, .slice A1_2 l1_2.length c1_2, .slice A1_3 l1_3.length c1_3, .bool a1_4]] w fun e w' => e = .returned (.bool r) ∧ Below w.heap.size w w' := by
 have hu42 := Tryd.underlying42
 have HR0_0 := Aside0.mk hr0_0
 have HC0_0 := Aside0.mk hc0_0
 clear hr0_0 hc0_0
 have HR0_1 := Aside0.mk hr0_1
 have HC0_1 := Aside0.mk hc0_1
 clear hr0_1 hc0_1
 have HR0_2 := Aside0.mk hr0_2
 have HC0_2 := Aside0.mk hc0_2
 clear hr0_2 hc0_2
 have HR0_3 := Aside0.mk hr0_3
 have HC0_3 := Aside0.mk hc0_3
 clear hr0_3 hc0_3
 have HR1_0 := Aside0.mk hr1_0
 have HC1_0 := Aside0.mk hc1_0
 clear hr1_0 hc1_0
 have HR1_1 := Aside0.mk hr1_1
 have HC1_1 := Aside0.mk hc1_1
 clear hr1_1 hc1_1
 have HR1_2 := Aside0.mk hr1_2
 have HC1_2 := Aside0.mk hc1_2
 clear hr1_2 hc1_2
 have HR1_3 := Aside0.mk hr1_3
 have HC1_3 := Aside0.mk hc1_3
 clear hr1_3 hc1_3
 have HB := Aside0.mk (Below.refl w.heap.size w)
 have H : ((caesuraref0_SameRows.f k l0_0 l1_0).bind fun t287 => ((caesuraref0_SameInts.f k l0_1 l1_1).bind fun t288 => ((caesuraref0_SameInts.f k l0_2 l1_2).bind fun t289 => ((caesuraref0_SameRows.f k l0_3 l1_3).bind fun t290 => (if t287 = true then (if t288 = true then (if t289 = true then (if t290 = true then (some (a0_4 == a1_4)) else (some false)) else (some false)) else (some false)) else (some false)))))) = some r := h
 clear h
 replace H := Option.bind_eq_some_iff.mp H
 obtain ⟨t287, A30, H⟩ := H
 replace H : ((caesuraref0_SameInts.f k l0_1 l1_1).bind fun t288 => ((caesuraref0_SameInts.f k l0_2 l1_2).bind fun t289 => ((caesuraref0_SameRows.f k l0_3 l1_3).bind fun t290 => (if t287 = true then (if t288 = true then (if t289 = true then (if t290 = true then (some (a0_4 == a1_4)) else (some false)) else (some false)) else (some false)) else (some false))))) = some r := H
 have A3 := Aside0.mk A30
 clear A30
 replace H := Option.bind_eq_some_iff.mp H
 obtain ⟨t288, A40, H⟩ := H
 replace H : ((caesuraref0_SameInts.f k l0_2 l1_2).bind fun t289 => ((caesuraref0_SameRows.f k l0_3 l1_3).bind fun t290 => (if t287 = true then (if t288 = true then (if t289 = true then (if t290 = true then (some (a0_4 == a1_4)) else (some false)) else (some false)) else (some false)) else (some false)))) = some r := H
 have A4 := Aside0.mk A40
 clear A40
 replace H := Option.bind_eq_some_iff.mp H
 obtain ⟨t289, A50, H⟩ := H
 replace H : ((caesuraref0_SameRows.f k l0_3 l1_3).bind fun t290 => (if t287 = true then (if t288 = true then (if t289 = true then (if t290 = true then (some (a0_4 == a1_4)) else (some false)) else (some false)) else (some false)) else (some false))) = some r := H
 have A5 := Aside0.mk A50
 clear A50
 replace H := Option.bind_eq_some_iff.mp H
 obtain ⟨t290, A60, H⟩ := H
 replace H : (if t287 = true then (if t288 = true then (if t289 = true then (if t290 = true then (some (a0_4 == a1_4)) else (some false)) else (some false)) else (some false)) else (some false)) = some r := H
 have A6 := Aside0.mk A60
 clear A60
 by_cases c7 : t287 = true
 ·subst c7
  have H1 : (if t288 = true then (if t289 = true then (if t290 = true then (some (a0_4 == a1_4)) else (some false)) else (some false)) else (some false)) = some r := by rw [if_pos rfl] at H; exact H
  clear H
  have H := H1
  clear H1
  by_cases c8 : t288 = true
  ·subst c8
   have H1 : (if t289 = true then (if t290 = true then (some (a0_4 == a1_4)) else (some false)) else (some false)) = some r := by rw [if_pos rfl] at H; exact H
   clear H
   have H := H1
   clear H1
   by_cases c9 : t289 = true
   ·subst c9
    have H1 : (if t290 = true then (some (a0_4 == a1_4)) else (some false)) = some r := by rw [if_pos rfl] at H; exact H
    clear H
    have H := H1
    clear H1
    by_cases c10 : t290 = true
    ·subst c10
     have H1 : (some (a0_4 == a1_4)) = some r := by rw [if_pos rfl] at H; exact H
     clear H
     have H := H1
     clear H1
     obtain rfl := Option.some.inj H
     go_enter Tryd.func25, Tryd.ntmps25
     go_wp2_with (first | ((with_reducible refine gate_dst (N := 2) rfl ?_); refine box_event ?hg (N := 2) ?hd (cs := #[.slice A0_0 l0_0.length c0_0, .slice A0_1 l0_1.length c0_1, .slice A0_2 l0_2.length c0_2, .slice A0_3 l0_3.length c0_3, .bool a0_4]) (t := 42) ?hr ?_; (case hd => rfl); (case hg => rfl); (case hr => first | (go_simp; done) | (go_simp; rfl)); intro gb285 hg w11 hbox hb; have n0_ := Aside0.mk (below_step (by repeat (first | (with_reducible first | exact HB.out | apply below_alloc | apply pw_below_drewN | apply below_drew1) | exact HB.out)) hb); have n1_ := Aside0.mk (hbox); have n2_ := Aside0.mk ((by rw [hg]; exact (below_size (by repeat (first | (with_reducible first | exact HB.out | apply below_alloc | apply pw_below_drewN | apply below_drew1) | exact HB.out))) : w.heap.size ≤ gb285)); have n3_ := Aside0.mk ((by rw [hg]; exact (below_size (by repeat (first | (with_reducible first | exact HB.out | apply below_alloc | apply pw_below_drewN | apply below_drew1) | exact HB.out))) : w.heap.size ≤ gb285)); clear HB; have HB := n0_; have BK285 := n1_; have GW285 := n2_; have GE285 := n3_; clear n0_ n1_ n2_ n3_; clear hb hbox hg) | ((with_reducible refine gate_dst (N := 3) rfl ?_); refine box_event ?hg (N := 3) ?hd (cs := #[.slice A1_0 l1_0.length c1_0, .slice A1_1 l1_1.length c1_1, .slice A1_2 l1_2.length c1_2, .slice A1_3 l1_3.length c1_3, .bool a1_4]) (t := 42) ?hr ?_; (case hd => rfl); (case hg => rfl); (case hr => first | (go_simp; done) | (go_simp; rfl)); intro gb286 hg w12 hbox hb; have n0_ := Aside0.mk (blk_below (g := gb285) (o := .cells #[.slice A0_0 l0_0.length c0_0, .slice A0_1 l0_1.length c0_1, .slice A0_2 l0_2.length c0_2, .slice A0_3 l0_3.length c0_3, .bool a0_4] 42 (0, 0)) (by (with_reducible repeat (first | refine blk_drewN ?_ _ | refine blk_drew ?_ | refine blk_alloc ?_ _)); exact BK285.out) hb); have n1_ := Aside0.mk (below_step (by repeat (first | (with_reducible first | exact HB.out | apply below_alloc | apply pw_below_drewN | apply below_drew1 | refine below_set ?_ GE285.out) | exact HB.out)) hb); have n2_ := Aside0.mk (hbox); have n3_ := Aside0.mk ((by rw [hg]; exact (below_size (by repeat (first | (with_reducible first | exact HB.out | apply below_alloc | apply pw_below_drewN | apply below_drew1 | refine below_set ?_ GE285.out) | exact HB.out))) : w.heap.size ≤ gb286)); have n4_ := Aside0.mk ((by rw [hg]; exact (below_size (by repeat (first | (with_reducible first | exact HB.out | apply below_alloc | apply pw_below_drewN | apply below_drew1 | refine below_set ?_ GE285.out) | exact HB.out))) : w.heap.size ≤ gb286)); have n5_ := Aside0.mk ((by rw [hg]; exact Nat.ne_of_lt (blk_lt (g := gb285) (o := .cells #[.slice A0_0 l0_0.length c0_0, .slice A0_1 l0_1.length c0_1, .slice A0_2 l0_2.length c0_2, .slice A0_3 l0_3.length c0_3, .bool a0_4] 42 (0, 0)) (by (with_reducible repeat (first | refine blk_drewN ?_ _ | refine blk_drew ?_ | refine blk_alloc ?_ _)); exact BK285.out)) : gb285 ≠ gb286)); have n6_ := Aside0.mk ((by rw [hg]; exact Nat.ne_of_gt (blk_lt (g := gb285) (o := .cells #[.slice A0_0 l0_0.length c0_0, .slice A0_1 l0_1.length c0_1, .slice A0_2 l0_2.length c0_2, .slice A0_3 l0_3.length c0_3, .bool a0_4] 42 (0, 0)) (by (with_reducible repeat (first | refine blk_drewN ?_ _ | refine blk_drew ?_ | refine blk_alloc ?_ _)); exact BK285.out)) : gb286 ≠ gb285)); clear BK285; clear HB; have BK285 := n0_; have HB := n1_; have BK286 := n2_; have GW286 := n3_; have GE286 := n4_; have NB285_286 := n5_; have NB286_285 := n6_; clear n0_ n1_ n2_ n3_ n4_ n5_ n6_; clear hb hbox hg; have hnb13 := NB285_286.out; have hnc13 := NB286_285.out; have hcz14_0 : w12.cell? ⟨gb285, 0, none⟩ = some (.slice A0_0 l0_0.length c0_0) := (blk_cell BK285.out 0).trans rfl; have hcz14_1 : w12.cell? ⟨gb285, 1, none⟩ = some (.slice A0_1 l0_1.length c0_1) := (blk_cell BK285.out 1).trans rfl; have hcz14_2 : w12.cell? ⟨gb285, 2, none⟩ = some (.slice A0_2 l0_2.length c0_2) := (blk_cell BK285.out 2).trans rfl; have hcz14_3 : w12.cell? ⟨gb285, 3, none⟩ = some (.slice A0_3 l0_3.length c0_3) := (blk_cell BK285.out 3).trans rfl; have hcz14_4 : w12.cell? ⟨gb285, 4, none⟩ = some (.bool a0_4) := (blk_cell BK285.out 4).trans rfl; have hfz14_0 := blk_frozen BK285.out 0; have hfz14_1 := blk_frozen BK285.out 1; have hfz14_2 := blk_frozen BK285.out 2; have hfz14_3 := blk_frozen BK285.out 3; have hfz14_4 := blk_frozen BK285.out 4; have hcz15_0 : w12.cell? ⟨gb286, 0, none⟩ = some (.slice A1_0 l1_0.length c1_0) := (blk_cell BK286.out 0).trans rfl; have hcz15_1 : w12.cell? ⟨gb286, 1, none⟩ = some (.slice A1_1 l1_1.length c1_1) := (blk_cell BK286.out 1).trans rfl; have hcz15_2 : w12.cell? ⟨gb286, 2, none⟩ = some (.slice A1_2 l1_2.length c1_2) := (blk_cell BK286.out 2).trans rfl; have hcz15_3 : w12.cell? ⟨gb286, 3, none⟩ = some (.slice A1_3 l1_3.length c1_3) := (blk_cell BK286.out 3).trans rfl; have hcz15_4 : w12.cell? ⟨gb286, 4, none⟩ = some (.bool a1_4) := (blk_cell BK286.out 4).trans rfl; have hfz15_0 := blk_frozen BK286.out 0; have hfz15_1 := blk_frozen BK286.out 1; have hfz15_2 := blk_frozen BK286.out 2; have hfz15_3 := blk_frozen BK286.out 3; have hfz15_4 := blk_frozen BK286.out 4) | ((with_reducible refine gate_callee (f := 83) rfl ?_); refine goesL_ (some 13) rfl rfl Tryd.func83 (by kernel_rfl) rfl #[.slice A0_0 l0_0.length c0_0, .slice A1_0 l1_0.length c1_0] rfl (by (try simp only [List.map_toArray, List.map_cons, List.map_nil]); first | done | rfl | (simp only [List.length_drop, List.length_take]; rfl)) ?_; (with_reducible refine (caesuraref0_SameRows.calls k _ _ l0_0 _ _ l1_0 true _ ?side1 ?side2 ?side3 ?side4 A3.out).mono ?_); (case side1 => repeat (first | exact (Kd.C_below HR0_0.out HB.out) | (with_reducible refine Kd.C_alloc ?_ _) | (with_reducible refine Kd.C_drewN ?_ _) | (with_reducible refine Kd.C_drew ?_))); (case side2 => exact HC0_0.out); (case side3 => repeat (first | exact (Kd.C_below HR1_0.out HB.out) | (with_reducible refine Kd.C_alloc ?_ _) | (with_reducible refine Kd.C_drewN ?_ _) | (with_reducible refine Kd.C_drew ?_))); (case side4 => exact HC1_0.out); rintro e w' ⟨rfl, ⟨nd, rfl⟩⟩; refine ⟨_, rfl, ?_⟩) | ((with_reducible refine gate_callee (f := 16) rfl ?_); refine goesL_ (some 18) rfl rfl Tryd.func16 (by kernel_rfl) rfl #[.slice A0_1 l0_1.length c0_1, .slice A1_1 l1_1.length c1_1] rfl (by (try simp only [List.map_toArray, List.map_cons, List.map_nil]); first | done | rfl | (simp only [List.length_drop, List.length_take]; rfl)) ?_; (with_reducible refine (caesuraref0_SameInts.calls k _ _ l0_1 _ _ l1_1 true _ ?side1 ?side2 ?side3 ?side4 A4.out).mono ?_); (case side1 => repeat (first | exact (Kd.C_below HR0_1.out (by repeat (first | (with_reducible first | exact HB.out | apply below_alloc | apply pw_below_drewN | apply below_drew1 | refine below_set ?_ GE285.out | refine below_set ?_ GE286.out) | exact HB.out))) | (with_reducible refine Kd.C_alloc ?_ _) | (with_reducible refine Kd.C_drewN ?_ _) | (with_reducible refine Kd.C_drew ?_))); (case side2 => exact HC0_1.out); (case side3 => repeat (first | exact (Kd.C_below HR1_1.out (by repeat (first | (with_reducible first | exact HB.out | apply below_alloc | apply pw_below_drewN | apply below_drew1 | refine below_set ?_ GE285.out | refine below_set ?_ GE286.out) | exact HB.out))) | (with_reducible refine Kd.C_alloc ?_ _) | (with_reducible refine Kd.C_drewN ?_ _) | (with_reducible refine Kd.C_drew ?_))); (case side4 => exact HC1_1.out); rintro e w' ⟨rfl, ⟨nd, rfl⟩⟩; refine ⟨_, rfl, ?_⟩) | ((with_reducible refine gate_callee (f := 16) rfl ?_); refine goesL_ (some 23) rfl rfl Tryd.func16 (by kernel_rfl) rfl #[.slice A0_2 l0_2.length c0_2, .slice A1_2 l1_2.length c1_2] rfl (by (try simp only [List.map_toArray, List.map_cons, List.map_nil]); first | done | rfl | (simp only [List.length_drop, List.length_take]; rfl)) ?_; (with_reducible refine (caesuraref0_SameInts.calls k _ _ l0_2 _ _ l1_2 true _ ?side1 ?side2 ?side3 ?side4 A5.out).mono ?_); (case side1 => repeat (first | exact (Kd.C_below HR0_2.out (by repeat (first | (with_reducible first | exact HB.out | apply below_alloc | apply pw_below_drewN | apply below_drew1 | refine below_set ?_ GE285.out | refine below_set ?_ GE286.out) | exact HB.out))) | (with_reducible refine Kd.C_alloc ?_ _) | (with_reducible refine Kd.C_drewN ?_ _) | (with_reducible refine Kd.C_drew ?_))); (case side2 => exact HC0_2.out); (case side3 => repeat (first | exact (Kd.C_below HR1_2.out (by repeat (first | (with_reducible first | exact HB.out | apply below_alloc | apply pw_below_drewN | apply below_drew1 | refine below_set ?_ GE285.out | refine below_set ?_ GE286.out) | exact HB.out))) | (with_reducible refine Kd.C_alloc ?_ _) | (with_reducible refine Kd.C_drewN ?_ _) | (with_reducible refine Kd.C_drew ?_))); (case side4 => exact HC1_2.out); rintro e w' ⟨rfl, ⟨nd, rfl⟩⟩; refine ⟨_, rfl, ?_⟩) | ((with_reducible refine gate_callee (f := 83) rfl ?_); refine goesL_ (some 28) rfl rfl Tryd.func83 (by kernel_rfl) rfl #[.slice A0_3 l0_3.length c0_3, .slice A1_3 l1_3.length c1_3] rfl (by (try simp only [List.map_toArray, List.map_cons, List.map_nil]); first | done | rfl | (simp only [List.length_drop, List.length_take]; rfl)) ?_; (with_reducible refine (caesuraref0_SameRows.calls k _ _ l0_3 _ _ l1_3 true _ ?side1 ?side2 ?side3 ?side4 A6.out).mono ?_); (case side1 => repeat (first | exact (Kd.C_below HR0_3.out (by repeat (first | (with_reducible first | exact HB.out | apply below_alloc | apply pw_below_drewN | apply below_drew1 | refine below_set ?_ GE285.out | refine below_set ?_ GE286.out) | exact HB.out))) | (with_reducible refine Kd.C_alloc ?_ _) | (with_reducible refine Kd.C_drewN ?_ _) | (with_reducible refine Kd.C_drew ?_))); (case side2 => exact HC0_3.out); (case side3 => repeat (first | exact (Kd.C_below HR1_3.out (by repeat (first | (with_reducible first | exact HB.out | apply below_alloc | apply pw_below_drewN | apply below_drew1 | refine below_set ?_ GE285.out | refine below_set ?_ GE286.out) | exact HB.out))) | (with_reducible refine Kd.C_alloc ?_ _) | (with_reducible refine Kd.C_drewN ?_ _) | (with_reducible refine Kd.C_drew ?_))); (case side4 => exact HC1_3.out); rintro e w' ⟨rfl, ⟨nd, rfl⟩⟩; refine ⟨_, rfl, ?_⟩))
     go_ret
     exact ⟨by first | rfl | (simp [errW_none, errW_some] <;> rfl) | (simp [*, errW_none, errW_some] <;> rfl), by repeat (first | (with_reducible first | exact HB.out | apply below_alloc | apply pw_below_drewN | apply below_drew1 | refine below_set ?_ GE285.out | refine below_set ?_ GE286.out) | exact HB.out)⟩
    ·replace c10 := Bool.eq_false_iff.mpr c10
     subst c10
     have H1 : (some false) = some r := by rw [if_neg (show ¬ (false = true) by decide)] at H; exact H
     clear H
     have H := H1
     clear H1
     obtain rfl := Option.some.inj H
     go_enter Tryd.func25, Tryd.ntmps25
     go_wp2_with (first | ((with_reducible refine gate_dst (N := 2) rfl ?_); refine box_event ?hg (N := 2) ?hd (cs := #[.slice A0_0 l0_0.length c0_0, .slice A0_1 l0_1.length c0_1, .slice A0_2 l0_2.length c0_2, .slice A0_3 l0_3.length c0_3, .bool a0_4]) (t := 42) ?hr ?_; (case hd => rfl); (case hg => rfl); (case hr => first | (go_simp; done) | (go_simp; rfl)); intro gb285 hg w16 hbox hb; have n0_ := Aside0.mk (below_step (by repeat (first | (with_reducible first | exact HB.out | apply below_alloc | apply pw_below_drewN | apply below_drew1) | exact HB.out)) hb); have n1_ := Aside0.mk (hbox); have n2_ := Aside0.mk ((by rw [hg]; exact (below_size (by repeat (first | (with_reducible first | exact HB.out | apply below_alloc | apply pw_below_drewN | apply below_drew1) | exact HB.out))) : w.heap.size ≤ gb285)); have n3_ := Aside0.mk ((by rw [hg]; exact (below_size (by repeat (first | (with_reducible first | exact HB.out | apply below_alloc | apply pw_below_drewN | apply below_drew1) | exact HB.out))) : w.heap.size ≤ gb285)); clear HB; have HB := n0_; have BK285 := n1_; have GW285 := n2_; have GE285 := n3_; clear n0_ n1_ n2_ n3_; clear hb hbox hg) | ((with_reducible refine gate_dst (N := 3) rfl ?_); refine box_event ?hg (N := 3) ?hd (cs := #[.slice A1_0 l1_0.length c1_0, .slice A1_1 l1_1.length c1_1, .slice A1_2 l1_2.length c1_2, .slice A1_3 l1_3.length c1_3, .bool a1_4]) (t := 42) ?hr ?_; (case hd => rfl); (case hg => rfl); (case hr => first | (go_simp; done) | (go_simp; rfl)); intro gb286 hg w17 hbox hb; have n0_ := Aside0.mk (blk_below (g := gb285) (o := .cells #[.slice A0_0 l0_0.length c0_0, .slice A0_1 l0_1.length c0_1, .slice A0_2 l0_2.length c0_2, .slice A0_3 l0_3.length c0_3, .bool a0_4] 42 (0, 0)) (by (with_reducible repeat (first | refine blk_drewN ?_ _ | refine blk_drew ?_ | refine blk_alloc ?_ _)); exact BK285.out) hb); have n1_ := Aside0.mk (below_step (by repeat (first | (with_reducible first | exact HB.out | apply below_alloc | apply pw_below_drewN | apply below_drew1 | refine below_set ?_ GE285.out) | exact HB.out)) hb); have n2_ := Aside0.mk (hbox); have n3_ := Aside0.mk ((by rw [hg]; exact (below_size (by repeat (first | (with_reducible first | exact HB.out | apply below_alloc | apply pw_below_drewN | apply below_drew1 | refine below_set ?_ GE285.out) | exact HB.out))) : w.heap.size ≤ gb286)); have n4_ := Aside0.mk ((by rw [hg]; exact (below_size (by repeat (first | (with_reducible first | exact HB.out | apply below_alloc | apply pw_below_drewN | apply below_drew1 | refine below_set ?_ GE285.out) | exact HB.out))) : w.heap.size ≤ gb286)); have n5_ := Aside0.mk ((by rw [hg]; exact Nat.ne_of_lt (blk_lt (g := gb285) (o := .cells #[.slice A0_0 l0_0.length c0_0, .slice A0_1 l0_1.length c0_1, .slice A0_2 l0_2.length c0_2, .slice A0_3 l0_3.length c0_3, .bool a0_4] 42 (0, 0)) (by (with_reducible repeat (first | refine blk_drewN ?_ _ | refine blk_drew ?_ | refine blk_alloc ?_ _)); exact BK285.out)) : gb285 ≠ gb286)); have n6_ := Aside0.mk ((by rw [hg]; exact Nat.ne_of_gt (blk_lt (g := gb285) (o := .cells #[.slice A0_0 l0_0.length c0_0, .slice A0_1 l0_1.length c0_1, .slice A0_2 l0_2.length c0_2, .slice A0_3 l0_3.length c0_3, .bool a0_4] 42 (0, 0)) (by (with_reducible repeat (first | refine blk_drewN ?_ _ | refine blk_drew ?_ | refine blk_alloc ?_ _)); exact BK285.out)) : gb286 ≠ gb285)); clear BK285; clear HB; have BK285 := n0_; have HB := n1_; have BK286 := n2_; have GW286 := n3_; have GE286 := n4_; have NB285_286 := n5_; have NB286_285 := n6_; clear n0_ n1_ n2_ n3_ n4_ n5_ n6_; clear hb hbox hg; have hnb18 := NB285_286.out; have hnc18 := NB286_285.out; have hcz19_0 : w17.cell? ⟨gb285, 0, none⟩ = some (.slice A0_0 l0_0.length c0_0) := (blk_cell BK285.out 0).trans rfl; have hcz19_1 : w17.cell? ⟨gb285, 1, none⟩ = some (.slice A0_1 l0_1.length c0_1) := (blk_cell BK285.out 1).trans rfl; have hcz19_2 : w17.cell? ⟨gb285, 2, none⟩ = some (.slice A0_2 l0_2.length c0_2) := (blk_cell BK285.out 2).trans rfl; have hcz19_3 : w17.cell? ⟨gb285, 3, none⟩ = some (.slice A0_3 l0_3.length c0_3) := (blk_cell BK285.out 3).trans rfl; have hcz19_4 : w17.cell? ⟨gb285, 4, none⟩ = some (.bool a0_4) := (blk_cell BK285.out 4).trans rfl; have hfz19_0 := blk_frozen BK285.out 0; have hfz19_1 := blk_frozen BK285.out 1; have hfz19_2 := blk_frozen BK285.out 2; have hfz19_3 := blk_frozen BK285.out 3; have hfz19_4 := blk_frozen BK285.out 4; have hcz20_0 : w17.cell? ⟨gb286, 0, none⟩ = some (.slice A1_0 l1_0.length c1_0) := (blk_cell BK286.out 0).trans rfl; have hcz20_1 : w17.cell? ⟨gb286, 1, none⟩ = some (.slice A1_1 l1_1.length c1_1) := (blk_cell BK286.out 1).trans rfl; have hcz20_2 : w17.cell? ⟨gb286, 2, none⟩ = some (.slice A1_2 l1_2.length c1_2) := (blk_cell BK286.out 2).trans rfl; have hcz20_3 : w17.cell? ⟨gb286, 3, none⟩ = some (.slice A1_3 l1_3.length c1_3) := (blk_cell BK286.out 3).trans rfl; have hcz20_4 : w17.cell? ⟨gb286, 4, none⟩ = some (.bool a1_4) := (blk_cell BK286.out 4).trans rfl; have hfz20_0 := blk_frozen BK286.out 0; have hfz20_1 := blk_frozen BK286.out 1; have hfz20_2 := blk_frozen BK286.out 2; have hfz20_3 := blk_frozen BK286.out 3; have hfz20_4 := blk_frozen BK286.out 4) | ((with_reducible refine gate_callee (f := 83) rfl ?_); refine goesL_ (some 13) rfl rfl Tryd.func83 (by kernel_rfl) rfl #[.slice A0_0 l0_0.length c0_0, .slice A1_0 l1_0.length c1_0] rfl (by (try simp only [List.map_toArray, List.map_cons, List.map_nil]); first | done | rfl | (simp only [List.length_drop, List.length_take]; rfl)) ?_; (with_reducible refine (caesuraref0_SameRows.calls k _ _ l0_0 _ _ l1_0 true _ ?side1 ?side2 ?side3 ?side4 A3.out).mono ?_); (case side1 => repeat (first | exact (Kd.C_below HR0_0.out HB.out) | (with_reducible refine Kd.C_alloc ?_ _) | (with_reducible refine Kd.C_drewN ?_ _) | (with_reducible refine Kd.C_drew ?_))); (case side2 => exact HC0_0.out); (case side3 => repeat (first | exact (Kd.C_below HR1_0.out HB.out) | (with_reducible refine Kd.C_alloc ?_ _) | (with_reducible refine Kd.C_drewN ?_ _) | (with_reducible refine Kd.C_drew ?_))); (case side4 => exact HC1_0.out); rintro e w' ⟨rfl, ⟨nd, rfl⟩⟩; refine ⟨_, rfl, ?_⟩) | ((with_reducible refine gate_callee (f := 16) rfl ?_); refine goesL_ (some 18) rfl rfl Tryd.func16 (by kernel_rfl) rfl #[.slice A0_1 l0_1.length c0_1, .slice A1_1 l1_1.length c1_1] rfl (by (try simp only [List.map_toArray, List.map_cons, List.map_nil]); first | done | rfl | (simp only [List.length_drop, List.length_take]; rfl)) ?_; (with_reducible refine (caesuraref0_SameInts.calls k _ _ l0_1 _ _ l1_1 true _ ?side1 ?side2 ?side3 ?side4 A4.out).mono ?_); (case side1 => repeat (first | exact (Kd.C_below HR0_1.out (by repeat (first | (with_reducible first | exact HB.out | apply below_alloc | apply pw_below_drewN | apply below_drew1 | refine below_set ?_ GE285.out | refine below_set ?_ GE286.out) | exact HB.out))) | (with_reducible refine Kd.C_alloc ?_ _) | (with_reducible refine Kd.C_drewN ?_ _) | (with_reducible refine Kd.C_drew ?_))); (case side2 => exact HC0_1.out); (case side3 => repeat (first | exact (Kd.C_below HR1_1.out (by repeat (first | (with_reducible first | exact HB.out | apply below_alloc | apply pw_below_drewN | apply below_drew1 | refine below_set ?_ GE285.out | refine below_set ?_ GE286.out) | exact HB.out))) | (with_reducible refine Kd.C_alloc ?_ _) | (with_reducible refine Kd.C_drewN ?_ _) | (with_reducible refine Kd.C_drew ?_))); (case side4 => exact HC1_1.out); rintro e w' ⟨rfl, ⟨nd, rfl⟩⟩; refine ⟨_, rfl, ?_⟩) | ((with_reducible refine gate_callee (f := 16) rfl ?_); refine goesL_ (some 23) rfl rfl Tryd.func16 (by kernel_rfl) rfl #[.slice A0_2 l0_2.length c0_2, .slice A1_2 l1_2.length c1_2] rfl (by (try simp only [List.map_toArray, List.map_cons, List.map_nil]); first | done | rfl | (simp only [List.length_drop, List.length_take]; rfl)) ?_; (with_reducible refine (caesuraref0_SameInts.calls k _ _ l0_2 _ _ l1_2 true _ ?side1 ?side2 ?side3 ?side4 A5.out).mono ?_); (case side1 => repeat (first | exact (Kd.C_below HR0_2.out (by repeat (first | (with_reducible first | exact HB.out | apply below_alloc | apply pw_below_drewN | apply below_drew1 | refine below_set ?_ GE285.out | refine below_set ?_ GE286.out) | exact HB.out))) | (with_reducible refine Kd.C_alloc ?_ _) | (with_reducible refine Kd.C_drewN ?_ _) | (with_reducible refine Kd.C_drew ?_))); (case side2 => exact HC0_2.out); (case side3 => repeat (first | exact (Kd.C_below HR1_2.out (by repeat (first | (with_reducible first | exact HB.out | apply below_alloc | apply pw_below_drewN | apply below_drew1 | refine below_set ?_ GE285.out | refine below_set ?_ GE286.out) | exact HB.out))) | (with_reducible refine Kd.C_alloc ?_ _) | (with_reducible refine Kd.C_drewN ?_ _) | (with_reducible refine Kd.C_drew ?_))); (case side4 => exact HC1_2.out); rintro e w' ⟨rfl, ⟨nd, rfl⟩⟩; refine ⟨_, rfl, ?_⟩) | ((with_reducible refine gate_callee (f := 83) rfl ?_); refine goesL_ (some 28) rfl rfl Tryd.func83 (by kernel_rfl) rfl #[.slice A0_3 l0_3.length c0_3, .slice A1_3 l1_3.length c1_3] rfl (by (try simp only [List.map_toArray, List.map_cons, List.map_nil]); first | done | rfl | (simp only [List.length_drop, List.length_take]; rfl)) ?_; (with_reducible refine (caesuraref0_SameRows.calls k _ _ l0_3 _ _ l1_3 false _ ?side1 ?side2 ?side3 ?side4 A6.out).mono ?_); (case side1 => repeat (first | exact (Kd.C_below HR0_3.out (by repeat (first | (with_reducible first | exact HB.out | apply below_alloc | apply pw_below_drewN | apply below_drew1 | refine below_set ?_ GE285.out | refine below_set ?_ GE286.out) | exact HB.out))) | (with_reducible refine Kd.C_alloc ?_ _) | (with_reducible refine Kd.C_drewN ?_ _) | (with_reducible refine Kd.C_drew ?_))); (case side2 => exact HC0_3.out); (case side3 => repeat (first | exact (Kd.C_below HR1_3.out (by repeat (first | (with_reducible first | exact HB.out | apply below_alloc | apply pw_below_drewN | apply below_drew1 | refine below_set ?_ GE285.out | refine below_set ?_ GE286.out) | exact HB.out))) | (with_reducible refine Kd.C_alloc ?_ _) | (with_reducible refine Kd.C_drewN ?_ _) | (with_reducible refine Kd.C_drew ?_))); (case side4 => exact HC1_3.out); rintro e w' ⟨rfl, ⟨nd, rfl⟩⟩; refine ⟨_, rfl, ?_⟩))
     go_ret
     exact ⟨by first | rfl | (simp [errW_none, errW_some] <;> rfl) | (simp [*, errW_none, errW_some] <;> rfl), by repeat (first | (with_reducible first | exact HB.out | apply below_alloc | apply pw_below_drewN | apply below_drew1 | refine below_set ?_ GE285.out | refine below_set ?_ GE286.out) | exact HB.out)⟩
   ·replace c9 := Bool.eq_false_iff.mpr c9
    subst c9
    have H1 : (some false) = some r := by rw [if_neg (show ¬ (false = true) by decide)] at H; exact H
    clear H
    have H := H1
    clear H1
    obtain rfl := Option.some.inj H
    go_enter Tryd.func25, Tryd.ntmps25
    go_wp2_with (first | ((with_reducible refine gate_dst (N := 2) rfl ?_); refine box_event ?hg (N := 2) ?hd (cs := #[.slice A0_0 l0_0.length c0_0, .slice A0_1 l0_1.length c0_1, .slice A0_2 l0_2.length c0_2, .slice A0_3 l0_3.length c0_3, .bool a0_4]) (t := 42) ?hr ?_; (case hd => rfl); (case hg => rfl); (case hr => first | (go_simp; done) | (go_simp; rfl)); intro gb285 hg w21 hbox hb; have n0_ := Aside0.mk (below_step (by repeat (first | (with_reducible first | exact HB.out | apply below_alloc | apply pw_below_drewN | apply below_drew1) | exact HB.out)) hb); have n1_ := Aside0.mk (hbox); have n2_ := Aside0.mk ((by rw [hg]; exact (below_size (by repeat (first | (with_reducible first | exact HB.out | apply below_alloc | apply pw_below_drewN | apply below_drew1) | exact HB.out))) : w.heap.size ≤ gb285)); have n3_ := Aside0.mk ((by rw [hg]; exact (below_size (by repeat (first | (with_reducible first | exact HB.out | apply below_alloc | apply pw_below_drewN | apply below_drew1) | exact HB.out))) : w.heap.size ≤ gb285)); clear HB; have HB := n0_; have BK285 := n1_; have GW285 := n2_; have GE285 := n3_; clear n0_ n1_ n2_ n3_; clear hb hbox hg) | ((with_reducible refine gate_dst (N := 3) rfl ?_); refine box_event ?hg (N := 3) ?hd (cs := #[.slice A1_0 l1_0.length c1_0, .slice A1_1 l1_1.length c1_1, .slice A1_2 l1_2.length c1_2, .slice A1_3 l1_3.length c1_3, .bool a1_4]) (t := 42) ?hr ?_; (case hd => rfl); (case hg => rfl); (case hr => first | (go_simp; done) | (go_simp; rfl)); intro gb286 hg w22 hbox hb; have n0_ := Aside0.mk (blk_below (g := gb285) (o := .cells #[.slice A0_0 l0_0.length c0_0, .slice A0_1 l0_1.length c0_1, .slice A0_2 l0_2.length c0_2, .slice A0_3 l0_3.length c0_3, .bool a0_4] 42 (0, 0)) (by (with_reducible repeat (first | refine blk_drewN ?_ _ | refine blk_drew ?_ | refine blk_alloc ?_ _)); exact BK285.out) hb); have n1_ := Aside0.mk (below_step (by repeat (first | (with_reducible first | exact HB.out | apply below_alloc | apply pw_below_drewN | apply below_drew1 | refine below_set ?_ GE285.out) | exact HB.out)) hb); have n2_ := Aside0.mk (hbox); have n3_ := Aside0.mk ((by rw [hg]; exact (below_size (by repeat (first | (with_reducible first | exact HB.out | apply below_alloc | apply pw_below_drewN | apply below_drew1 | refine below_set ?_ GE285.out) | exact HB.out))) : w.heap.size ≤ gb286)); have n4_ := Aside0.mk ((by rw [hg]; exact (below_size (by repeat (first | (with_reducible first | exact HB.out | apply below_alloc | apply pw_below_drewN | apply below_drew1 | refine below_set ?_ GE285.out) | exact HB.out))) : w.heap.size ≤ gb286)); have n5_ := Aside0.mk ((by rw [hg]; exact Nat.ne_of_lt (blk_lt (g := gb285) (o := .cells #[.slice A0_0 l0_0.length c0_0, .slice A0_1 l0_1.length c0_1, .slice A0_2 l0_2.length c0_2, .slice A0_3 l0_3.length c0_3, .bool a0_4] 42 (0, 0)) (by (with_reducible repeat (first | refine blk_drewN ?_ _ | refine blk_drew ?_ | refine blk_alloc ?_ _)); exact BK285.out)) : gb285 ≠ gb286)); have n6_ := Aside0.mk ((by rw [hg]; exact Nat.ne_of_gt (blk_lt (g := gb285) (o := .cells #[.slice A0_0 l0_0.length c0_0, .slice A0_1 l0_1.length c0_1, .slice A0_2 l0_2.length c0_2, .slice A0_3 l0_3.length c0_3, .bool a0_4] 42 (0, 0)) (by (with_reducible repeat (first | refine blk_drewN ?_ _ | refine blk_drew ?_ | refine blk_alloc ?_ _)); exact BK285.out)) : gb286 ≠ gb285)); clear BK285; clear HB; have BK285 := n0_; have HB := n1_; have BK286 := n2_; have GW286 := n3_; have GE286 := n4_; have NB285_286 := n5_; have NB286_285 := n6_; clear n0_ n1_ n2_ n3_ n4_ n5_ n6_; clear hb hbox hg; have hnb23 := NB285_286.out; have hnc23 := NB286_285.out; have hcz24_0 : w22.cell? ⟨gb285, 0, none⟩ = some (.slice A0_0 l0_0.length c0_0) := (blk_cell BK285.out 0).trans rfl; have hcz24_1 : w22.cell? ⟨gb285, 1, none⟩ = some (.slice A0_1 l0_1.length c0_1) := (blk_cell BK285.out 1).trans rfl; have hcz24_2 : w22.cell? ⟨gb285, 2, none⟩ = some (.slice A0_2 l0_2.length c0_2) := (blk_cell BK285.out 2).trans rfl; have hcz24_3 : w22.cell? ⟨gb285, 3, none⟩ = some (.slice A0_3 l0_3.length c0_3) := (blk_cell BK285.out 3).trans rfl; have hcz24_4 : w22.cell? ⟨gb285, 4, none⟩ = some (.bool a0_4) := (blk_cell BK285.out 4).trans rfl; have hfz24_0 := blk_frozen BK285.out 0; have hfz24_1 := blk_frozen BK285.out 1; have hfz24_2 := blk_frozen BK285.out 2; have hfz24_3 := blk_frozen BK285.out 3; have hfz24_4 := blk_frozen BK285.out 4; have hcz25_0 : w22.cell? ⟨gb286, 0, none⟩ = some (.slice A1_0 l1_0.length c1_0) := (blk_cell BK286.out 0).trans rfl; have hcz25_1 : w22.cell? ⟨gb286, 1, none⟩ = some (.slice A1_1 l1_1.length c1_1) := (blk_cell BK286.out 1).trans rfl; have hcz25_2 : w22.cell? ⟨gb286, 2, none⟩ = some (.slice A1_2 l1_2.length c1_2) := (blk_cell BK286.out 2).trans rfl; have hcz25_3 : w22.cell? ⟨gb286, 3, none⟩ = some (.slice A1_3 l1_3.length c1_3) := (blk_cell BK286.out 3).trans rfl; have hcz25_4 : w22.cell? ⟨gb286, 4, none⟩ = some (.bool a1_4) := (blk_cell BK286.out 4).trans rfl; have hfz25_0 := blk_frozen BK286.out 0; have hfz25_1 := blk_frozen BK286.out 1; have hfz25_2 := blk_frozen BK286.out 2; have hfz25_3 := blk_frozen BK286.out 3; have hfz25_4 := blk_frozen BK286.out 4) | ((with_reducible refine gate_callee (f := 83) rfl ?_); refine goesL_ (some 13) rfl rfl Tryd.func83 (by kernel_rfl) rfl #[.slice A0_0 l0_0.length c0_0, .slice A1_0 l1_0.length c1_0] rfl (by (try simp only [List.map_toArray, List.map_cons, List.map_nil]); first | done | rfl | (simp only [List.length_drop, List.length_take]; rfl)) ?_; (with_reducible refine (caesuraref0_SameRows.calls k _ _ l0_0 _ _ l1_0 true _ ?side1 ?side2 ?side3 ?side4 A3.out).mono ?_); (case side1 => repeat (first | exact (Kd.C_below HR0_0.out HB.out) | (with_reducible refine Kd.C_alloc ?_ _) | (with_reducible refine Kd.C_drewN ?_ _) | (with_reducible refine Kd.C_drew ?_))); (case side2 => exact HC0_0.out); (case side3 => repeat (first | exact (Kd.C_below HR1_0.out HB.out) | (with_reducible refine Kd.C_alloc ?_ _) | (with_reducible refine Kd.C_drewN ?_ _) | (with_reducible refine Kd.C_drew ?_))); (case side4 => exact HC1_0.out); rintro e w' ⟨rfl, ⟨nd, rfl⟩⟩; refine ⟨_, rfl, ?_⟩) | ((with_reducible refine gate_callee (f := 16) rfl ?_); refine goesL_ (some 18) rfl rfl Tryd.func16 (by kernel_rfl) rfl #[.slice A0_1 l0_1.length c0_1, .slice A1_1 l1_1.length c1_1] rfl (by (try simp only [List.map_toArray, List.map_cons, List.map_nil]); first | done | rfl | (simp only [List.length_drop, List.length_take]; rfl)) ?_; (with_reducible refine (caesuraref0_SameInts.calls k _ _ l0_1 _ _ l1_1 true _ ?side1 ?side2 ?side3 ?side4 A4.out).mono ?_); (case side1 => repeat (first | exact (Kd.C_below HR0_1.out (by repeat (first | (with_reducible first | exact HB.out | apply below_alloc | apply pw_below_drewN | apply below_drew1 | refine below_set ?_ GE285.out | refine below_set ?_ GE286.out) | exact HB.out))) | (with_reducible refine Kd.C_alloc ?_ _) | (with_reducible refine Kd.C_drewN ?_ _) | (with_reducible refine Kd.C_drew ?_))); (case side2 => exact HC0_1.out); (case side3 => repeat (first | exact (Kd.C_below HR1_1.out (by repeat (first | (with_reducible first | exact HB.out | apply below_alloc | apply pw_below_drewN | apply below_drew1 | refine below_set ?_ GE285.out | refine below_set ?_ GE286.out) | exact HB.out))) | (with_reducible refine Kd.C_alloc ?_ _) | (with_reducible refine Kd.C_drewN ?_ _) | (with_reducible refine Kd.C_drew ?_))); (case side4 => exact HC1_1.out); rintro e w' ⟨rfl, ⟨nd, rfl⟩⟩; refine ⟨_, rfl, ?_⟩) | ((with_reducible refine gate_callee (f := 16) rfl ?_); refine goesL_ (some 23) rfl rfl Tryd.func16 (by kernel_rfl) rfl #[.slice A0_2 l0_2.length c0_2, .slice A1_2 l1_2.length c1_2] rfl (by (try simp only [List.map_toArray, List.map_cons, List.map_nil]); first | done | rfl | (simp only [List.length_drop, List.length_take]; rfl)) ?_; (with_reducible refine (caesuraref0_SameInts.calls k _ _ l0_2 _ _ l1_2 false _ ?side1 ?side2 ?side3 ?side4 A5.out).mono ?_); (case side1 => repeat (first | exact (Kd.C_below HR0_2.out (by repeat (first | (with_reducible first | exact HB.out | apply below_alloc | apply pw_below_drewN | apply below_drew1 | refine below_set ?_ GE285.out | refine below_set ?_ GE286.out) | exact HB.out))) | (with_reducible refine Kd.C_alloc ?_ _) | (with_reducible refine Kd.C_drewN ?_ _) | (with_reducible refine Kd.C_drew ?_))); (case side2 => exact HC0_2.out); (case side3 => repeat (first | exact (Kd.C_below HR1_2.out (by repeat (first | (with_reducible first | exact HB.out | apply below_alloc | apply pw_below_drewN | apply below_drew1 | refine below_set ?_ GE285.out | refine below_set ?_ GE286.out) | exact HB.out))) | (with_reducible refine Kd.C_alloc ?_ _) | (with_reducible refine Kd.C_drewN ?_ _) | (with_reducible refine Kd.C_drew ?_))); (case side4 => exact HC1_2.out); rintro e w' ⟨rfl, ⟨nd, rfl⟩⟩; refine ⟨_, rfl, ?_⟩) | ((with_reducible refine gate_callee (f := 83) rfl ?_); refine goesL_ (some 28) rfl rfl Tryd.func83 (by kernel_rfl) rfl #[.slice A0_3 l0_3.length c0_3, .slice A1_3 l1_3.length c1_3] rfl (by (try simp only [List.map_toArray, List.map_cons, List.map_nil]); first | done | rfl | (simp only [List.length_drop, List.length_take]; rfl)) ?_; (with_reducible refine (caesuraref0_SameRows.calls k _ _ l0_3 _ _ l1_3 t290 _ ?side1 ?side2 ?side3 ?side4 A6.out).mono ?_); (case side1 => repeat (first | exact (Kd.C_below HR0_3.out (by repeat (first | (with_reducible first | exact HB.out | apply below_alloc | apply pw_below_drewN | apply below_drew1 | refine below_set ?_ GE285.out | refine below_set ?_ GE286.out) | exact HB.out))) | (with_reducible refine Kd.C_alloc ?_ _) | (with_reducible refine Kd.C_drewN ?_ _) | (with_reducible refine Kd.C_drew ?_))); (case side2 => exact HC0_3.out); (case side3 => repeat (first | exact (Kd.C_below HR1_3.out (by repeat (first | (with_reducible first | exact HB.out | apply below_alloc | apply pw_below_drewN | apply below_drew1 | refine below_set ?_ GE285.out | refine below_set ?_ GE286.out) | exact HB.out))) | (with_reducible refine Kd.C_alloc ?_ _) | (with_reducible refine Kd.C_drewN ?_ _) | (with_reducible refine Kd.C_drew ?_))); (case side4 => exact HC1_3.out); rintro e w' ⟨rfl, ⟨nd, rfl⟩⟩; refine ⟨_, rfl, ?_⟩))
    go_ret
    exact ⟨by first | rfl | (simp [errW_none, errW_some] <;> rfl) | (simp [*, errW_none, errW_some] <;> rfl), by repeat (first | (with_reducible first | exact HB.out | apply below_alloc | apply pw_below_drewN | apply below_drew1 | refine below_set ?_ GE285.out | refine below_set ?_ GE286.out) | exact HB.out)⟩
  ·replace c8 := Bool.eq_false_iff.mpr c8
   subst c8
   have H1 : (some false) = some r := by rw [if_neg (show ¬ (false = true) by decide)] at H; exact H
   clear H
   have H := H1
   clear H1
   obtain rfl := Option.some.inj H
   go_enter Tryd.func25, Tryd.ntmps25
   go_wp2_with (first | ((with_reducible refine gate_dst (N := 2) rfl ?_); refine box_event ?hg (N := 2) ?hd (cs := #[.slice A0_0 l0_0.length c0_0, .slice A0_1 l0_1.length c0_1, .slice A0_2 l0_2.length c0_2, .slice A0_3 l0_3.length c0_3, .bool a0_4]) (t := 42) ?hr ?_; (case hd => rfl); (case hg => rfl); (case hr => first | (go_simp; done) | (go_simp; rfl)); intro gb285 hg w26 hbox hb; have n0_ := Aside0.mk (below_step (by repeat (first | (with_reducible first | exact HB.out | apply below_alloc | apply pw_below_drewN | apply below_drew1) | exact HB.out)) hb); have n1_ := Aside0.mk (hbox); have n2_ := Aside0.mk ((by rw [hg]; exact (below_size (by repeat (first | (with_reducible first | exact HB.out | apply below_alloc | apply pw_below_drewN | apply below_drew1) | exact HB.out))) : w.heap.size ≤ gb285)); have n3_ := Aside0.mk ((by rw [hg]; exact (below_size (by repeat (first | (with_reducible first | exact HB.out | apply below_alloc | apply pw_below_drewN | apply below_drew1) | exact HB.out))) : w.heap.size ≤ gb285)); clear HB; have HB := n0_; have BK285 := n1_; have GW285 := n2_; have GE285 := n3_; clear n0_ n1_ n2_ n3_; clear hb hbox hg) | ((with_reducible refine gate_dst (N := 3) rfl ?_); refine box_event ?hg (N := 3) ?hd (cs := #[.slice A1_0 l1_0.length c1_0, .slice A1_1 l1_1.length c1_1, .slice A1_2 l1_2.length c1_2, .slice A1_3 l1_3.length c1_3, .bool a1_4]) (t := 42) ?hr ?_; (case hd => rfl); (case hg => rfl); (case hr => first | (go_simp; done) | (go_simp; rfl)); intro gb286 hg w27 hbox hb; have n0_ := Aside0.mk (blk_below (g := gb285) (o := .cells #[.slice A0_0 l0_0.length c0_0, .slice A0_1 l0_1.length c0_1, .slice A0_2 l0_2.length c0_2, .slice A0_3 l0_3.length c0_3, .bool a0_4] 42 (0, 0)) (by (with_reducible repeat (first | refine blk_drewN ?_ _ | refine blk_drew ?_ | refine blk_alloc ?_ _)); exact BK285.out) hb); have n1_ := Aside0.mk (below_step (by repeat (first | (with_reducible first | exact HB.out | apply below_alloc | apply pw_below_drewN | apply below_drew1 | refine below_set ?_ GE285.out) | exact HB.out)) hb); have n2_ := Aside0.mk (hbox); have n3_ := Aside0.mk ((by rw [hg]; exact (below_size (by repeat (first | (with_reducible first | exact HB.out | apply below_alloc | apply pw_below_drewN | apply below_drew1 | refine below_set ?_ GE285.out) | exact HB.out))) : w.heap.size ≤ gb286)); have n4_ := Aside0.mk ((by rw [hg]; exact (below_size (by repeat (first | (with_reducible first | exact HB.out | apply below_alloc | apply pw_below_drewN | apply below_drew1 | refine below_set ?_ GE285.out) | exact HB.out))) : w.heap.size ≤ gb286)); have n5_ := Aside0.mk ((by rw [hg]; exact Nat.ne_of_lt (blk_lt (g := gb285) (o := .cells #[.slice A0_0 l0_0.length c0_0, .slice A0_1 l0_1.length c0_1, .slice A0_2 l0_2.length c0_2, .slice A0_3 l0_3.length c0_3, .bool a0_4] 42 (0, 0)) (by (with_reducible repeat (first | refine blk_drewN ?_ _ | refine blk_drew ?_ | refine blk_alloc ?_ _)); exact BK285.out)) : gb285 ≠ gb286)); have n6_ := Aside0.mk ((by rw [hg]; exact Nat.ne_of_gt (blk_lt (g := gb285) (o := .cells #[.slice A0_0 l0_0.length c0_0, .slice A0_1 l0_1.length c0_1, .slice A0_2 l0_2.length c0_2, .slice A0_3 l0_3.length c0_3, .bool a0_4] 42 (0, 0)) (by (with_reducible repeat (first | refine blk_drewN ?_ _ | refine blk_drew ?_ | refine blk_alloc ?_ _)); exact BK285.out)) : gb286 ≠ gb285)); clear BK285; clear HB; have BK285 := n0_; have HB := n1_; have BK286 := n2_; have GW286 := n3_; have GE286 := n4_; have NB285_286 := n5_; have NB286_285 := n6_; clear n0_ n1_ n2_ n3_ n4_ n5_ n6_; clear hb hbox hg; have hnb28 := NB285_286.out; have hnc28 := NB286_285.out; have hcz29_0 : w27.cell? ⟨gb285, 0, none⟩ = some (.slice A0_0 l0_0.length c0_0) := (blk_cell BK285.out 0).trans rfl; have hcz29_1 : w27.cell? ⟨gb285, 1, none⟩ = some (.slice A0_1 l0_1.length c0_1) := (blk_cell BK285.out 1).trans rfl; have hcz29_2 : w27.cell? ⟨gb285, 2, none⟩ = some (.slice A0_2 l0_2.length c0_2) := (blk_cell BK285.out 2).trans rfl; have hcz29_3 : w27.cell? ⟨gb285, 3, none⟩ = some (.slice A0_3 l0_3.length c0_3) := (blk_cell BK285.out 3).trans rfl; have hcz29_4 : w27.cell? ⟨gb285, 4, none⟩ = some (.bool a0_4) := (blk_cell BK285.out 4).trans rfl; have hfz29_0 := blk_frozen BK285.out 0; have hfz29_1 := blk_frozen BK285.out 1; have hfz29_2 := blk_frozen BK285.out 2; have hfz29_3 := blk_frozen BK285.out 3; have hfz29_4 := blk_frozen BK285.out 4; have hcz30_0 : w27.cell? ⟨gb286, 0, none⟩ = some (.slice A1_0 l1_0.length c1_0) := (blk_cell BK286.out 0).trans rfl; have hcz30_1 : w27.cell? ⟨gb286, 1, none⟩ = some (.slice A1_1 l1_1.length c1_1) := (blk_cell BK286.out 1).trans rfl; have hcz30_2 : w27.cell? ⟨gb286, 2, none⟩ = some (.slice A1_2 l1_2.length c1_2) := (blk_cell BK286.out 2).trans rfl; have hcz30_3 : w27.cell? ⟨gb286, 3, none⟩ = some (.slice A1_3 l1_3.length c1_3) := (blk_cell BK286.out 3).trans rfl; have hcz30_4 : w27.cell? ⟨gb286, 4, none⟩ = some (.bool a1_4) := (blk_cell BK286.out 4).trans rfl; have hfz30_0 := blk_frozen BK286.out 0; have hfz30_1 := blk_frozen BK286.out 1; have hfz30_2 := blk_frozen BK286.out 2; have hfz30_3 := blk_frozen BK286.out 3; have hfz30_4 := blk_frozen BK286.out 4) | ((with_reducible refine gate_callee (f := 83) rfl ?_); refine goesL_ (some 13) rfl rfl Tryd.func83 (by kernel_rfl) rfl #[.slice A0_0 l0_0.length c0_0, .slice A1_0 l1_0.length c1_0] rfl (by (try simp only [List.map_toArray, List.map_cons, List.map_nil]); first | done | rfl | (simp only [List.length_drop, List.length_take]; rfl)) ?_; (with_reducible refine (caesuraref0_SameRows.calls k _ _ l0_0 _ _ l1_0 true _ ?side1 ?side2 ?side3 ?side4 A3.out).mono ?_); (case side1 => repeat (first | exact (Kd.C_below HR0_0.out HB.out) | (with_reducible refine Kd.C_alloc ?_ _) | (with_reducible refine Kd.C_drewN ?_ _) | (with_reducible refine Kd.C_drew ?_))); (case side2 => exact HC0_0.out); (case side3 => repeat (first | exact (Kd.C_below HR1_0.out HB.out) | (with_reducible refine Kd.C_alloc ?_ _) | (with_reducible refine Kd.C_drewN ?_ _) | (with_reducible refine Kd.C_drew ?_))); (case side4 => exact HC1_0.out); rintro e w' ⟨rfl, ⟨nd, rfl⟩⟩; refine ⟨_, rfl, ?_⟩) | ((with_reducible refine gate_callee (f := 16) rfl ?_); refine goesL_ (some 18) rfl rfl Tryd.func16 (by kernel_rfl) rfl #[.slice A0_1 l0_1.length c0_1, .slice A1_1 l1_1.length c1_1] rfl (by (try simp only [List.map_toArray, List.map_cons, List.map_nil]); first | done | rfl | (simp only [List.length_drop, List.length_take]; rfl)) ?_; (with_reducible refine (caesuraref0_SameInts.calls k _ _ l0_1 _ _ l1_1 false _ ?side1 ?side2 ?side3 ?side4 A4.out).mono ?_); (case side1 => repeat (first | exact (Kd.C_below HR0_1.out (by repeat (first | (with_reducible first | exact HB.out | apply below_alloc | apply pw_below_drewN | apply below_drew1 | refine below_set ?_ GE285.out | refine below_set ?_ GE286.out) | exact HB.out))) | (with_reducible refine Kd.C_alloc ?_ _) | (with_reducible refine Kd.C_drewN ?_ _) | (with_reducible refine Kd.C_drew ?_))); (case side2 => exact HC0_1.out); (case side3 => repeat (first | exact (Kd.C_below HR1_1.out (by repeat (first | (with_reducible first | exact HB.out | apply below_alloc | apply pw_below_drewN | apply below_drew1 | refine below_set ?_ GE285.out | refine below_set ?_ GE286.out) | exact HB.out))) | (with_reducible refine Kd.C_alloc ?_ _) | (with_reducible refine Kd.C_drewN ?_ _) | (with_reducible refine Kd.C_drew ?_))); (case side4 => exact HC1_1.out); rintro e w' ⟨rfl, ⟨nd, rfl⟩⟩; refine ⟨_, rfl, ?_⟩) | ((with_reducible refine gate_callee (f := 16) rfl ?_); refine goesL_ (some 23) rfl rfl Tryd.func16 (by kernel_rfl) rfl #[.slice A0_2 l0_2.length c0_2, .slice A1_2 l1_2.length c1_2] rfl (by (try simp only [List.map_toArray, List.map_cons, List.map_nil]); first | done | rfl | (simp only [List.length_drop, List.length_take]; rfl)) ?_; (with_reducible refine (caesuraref0_SameInts.calls k _ _ l0_2 _ _ l1_2 t289 _ ?side1 ?side2 ?side3 ?side4 A5.out).mono ?_); (case side1 => repeat (first | exact (Kd.C_below HR0_2.out (by repeat (first | (with_reducible first | exact HB.out | apply below_alloc | apply pw_below_drewN | apply below_drew1 | refine below_set ?_ GE285.out | refine below_set ?_ GE286.out) | exact HB.out))) | (with_reducible refine Kd.C_alloc ?_ _) | (with_reducible refine Kd.C_drewN ?_ _) | (with_reducible refine Kd.C_drew ?_))); (case side2 => exact HC0_2.out); (case side3 => repeat (first | exact (Kd.C_below HR1_2.out (by repeat (first | (with_reducible first | exact HB.out | apply below_alloc | apply pw_below_drewN | apply below_drew1 | refine below_set ?_ GE285.out | refine below_set ?_ GE286.out) | exact HB.out))) | (with_reducible refine Kd.C_alloc ?_ _) | (with_reducible refine Kd.C_drewN ?_ _) | (with_reducible refine Kd.C_drew ?_))); (case side4 => exact HC1_2.out); rintro e w' ⟨rfl, ⟨nd, rfl⟩⟩; refine ⟨_, rfl, ?_⟩) | ((with_reducible refine gate_callee (f := 83) rfl ?_); refine goesL_ (some 28) rfl rfl Tryd.func83 (by kernel_rfl) rfl #[.slice A0_3 l0_3.length c0_3, .slice A1_3 l1_3.length c1_3] rfl (by (try simp only [List.map_toArray, List.map_cons, List.map_nil]); first | done | rfl | (simp only [List.length_drop, List.length_take]; rfl)) ?_; (with_reducible refine (caesuraref0_SameRows.calls k _ _ l0_3 _ _ l1_3 t290 _ ?side1 ?side2 ?side3 ?side4 A6.out).mono ?_); (case side1 => repeat (first | exact (Kd.C_below HR0_3.out (by repeat (first | (with_reducible first | exact HB.out | apply below_alloc | apply pw_below_drewN | apply below_drew1 | refine below_set ?_ GE285.out | refine below_set ?_ GE286.out) | exact HB.out))) | (with_reducible refine Kd.C_alloc ?_ _) | (with_reducible refine Kd.C_drewN ?_ _) | (with_reducible refine Kd.C_drew ?_))); (case side2 => exact HC0_3.out); (case side3 => repeat (first | exact (Kd.C_below HR1_3.out (by repeat (first | (with_reducible first | exact HB.out | apply below_alloc | apply pw_below_drewN | apply below_drew1 | refine below_set ?_ GE285.out | refine below_set ?_ GE286.out) | exact HB.out))) | (with_reducible refine Kd.C_alloc ?_ _) | (with_reducible refine Kd.C_drewN ?_ _) | (with_reducible refine Kd.C_drew ?_))); (case side4 => exact HC1_3.out); rintro e w' ⟨rfl, ⟨nd, rfl⟩⟩; refine ⟨_, rfl, ?_⟩))
   go_ret
   exact ⟨by first | rfl | (simp [errW_none, errW_some] <;> rfl) | (simp [*, errW_none, errW_some] <;> rfl), by repeat (first | (with_reducible first | exact HB.out | apply below_alloc | apply pw_below_drewN | apply below_drew1 | refine below_set ?_ GE285.out | refine below_set ?_ GE286.out) | exact HB.out)⟩
 ·replace c7 := Bool.eq_false_iff.mpr c7
  subst c7
  have H1 : (some false) = some r := by rw [if_neg (show ¬ (false = true) by decide)] at H; exact H
  clear H
  have H := H1
  clear H1
  obtain rfl := Option.some.inj H
  go_enter Tryd.func25, Tryd.ntmps25
  go_wp2_with (first | ((with_reducible refine gate_dst (N := 2) rfl ?_); refine box_event ?hg (N := 2) ?hd (cs := #[.slice A0_0 l0_0.length c0_0, .slice A0_1 l0_1.length c0_1, .slice A0_2 l0_2.length c0_2, .slice A0_3 l0_3.length c0_3, .bool a0_4]) (t := 42) ?hr ?_; (case hd => rfl); (case hg => rfl); (case hr => first | (go_simp; done) | (go_simp; rfl)); intro gb285 hg w31 hbox hb; have n0_ := Aside0.mk (below_step (by repeat (first | (with_reducible first | exact HB.out | apply below_alloc | apply pw_below_drewN | apply below_drew1) | exact HB.out)) hb); have n1_ := Aside0.mk (hbox); have n2_ := Aside0.mk ((by rw [hg]; exact (below_size (by repeat (first | (with_reducible first | exact HB.out | apply below_alloc | apply pw_below_drewN | apply below_drew1) | exact HB.out))) : w.heap.size ≤ gb285)); have n3_ := Aside0.mk ((by rw [hg]; exact (below_size (by repeat (first | (with_reducible first | exact HB.out | apply below_alloc | apply pw_below_drewN | apply below_drew1) | exact HB.out))) : w.heap.size ≤ gb285)); clear HB; have HB := n0_; have BK285 := n1_; have GW285 := n2_; have GE285 := n3_; clear n0_ n1_ n2_ n3_; clear hb hbox hg) | ((with_reducible refine gate_dst (N := 3) rfl ?_); refine box_event ?hg (N := 3) ?hd (cs := #[.slice A1_0 l1_0.length c1_0, .slice A1_1 l1_1.length c1_1, .slice A1_2 l1_2.length c1_2, .slice A1_3 l1_3.length c1_3, .bool a1_4]) (t := 42) ?hr ?_; (case hd => rfl); (case hg => rfl); (case hr => first | (go_simp; done) | (go_simp; rfl)); intro gb286 hg w32 hbox hb; have n0_ := Aside0.mk (blk_below (g := gb285) (o := .cells #[.slice A0_0 l0_0.length c0_0, .slice A0_1 l0_1.length c0_1, .slice A0_2 l0_2.length c0_2, .slice A0_3 l0_3.length c0_3, .bool a0_4] 42 (0, 0)) (by (with_reducible repeat (first | refine blk_drewN ?_ _ | refine blk_drew ?_ | refine blk_alloc ?_ _)); exact BK285.out) hb); have n1_ := Aside0.mk (below_step (by repeat (first | (with_reducible first | exact HB.out | apply below_alloc | apply pw_below_drewN | apply below_drew1 | refine below_set ?_ GE285.out) | exact HB.out)) hb); have n2_ := Aside0.mk (hbox); have n3_ := Aside0.mk ((by rw [hg]; exact (below_size (by repeat (first | (with_reducible first | exact HB.out | apply below_alloc | apply pw_below_drewN | apply below_drew1 | refine below_set ?_ GE285.out) | exact HB.out))) : w.heap.size ≤ gb286)); have n4_ := Aside0.mk ((by rw [hg]; exact (below_size (by repeat (first | (with_reducible first | exact HB.out | apply below_alloc | apply pw_below_drewN | apply below_drew1 | refine below_set ?_ GE285.out) | exact HB.out))) : w.heap.size ≤ gb286)); have n5_ := Aside0.mk ((by rw [hg]; exact Nat.ne_of_lt (blk_lt (g := gb285) (o := .cells #[.slice A0_0 l0_0.length c0_0, .slice A0_1 l0_1.length c0_1, .slice A0_2 l0_2.length c0_2, .slice A0_3 l0_3.length c0_3, .bool a0_4] 42 (0, 0)) (by (with_reducible repeat (first | refine blk_drewN ?_ _ | refine blk_drew ?_ | refine blk_alloc ?_ _)); exact BK285.out)) : gb285 ≠ gb286)); have n6_ := Aside0.mk ((by rw [hg]; exact Nat.ne_of_gt (blk_lt (g := gb285) (o := .cells #[.slice A0_0 l0_0.length c0_0, .slice A0_1 l0_1.length c0_1, .slice A0_2 l0_2.length c0_2, .slice A0_3 l0_3.length c0_3, .bool a0_4] 42 (0, 0)) (by (with_reducible repeat (first | refine blk_drewN ?_ _ | refine blk_drew ?_ | refine blk_alloc ?_ _)); exact BK285.out)) : gb286 ≠ gb285)); clear BK285; clear HB; have BK285 := n0_; have HB := n1_; have BK286 := n2_; have GW286 := n3_; have GE286 := n4_; have NB285_286 := n5_; have NB286_285 := n6_; clear n0_ n1_ n2_ n3_ n4_ n5_ n6_; clear hb hbox hg; have hnb33 := NB285_286.out; have hnc33 := NB286_285.out; have hcz34_0 : w32.cell? ⟨gb285, 0, none⟩ = some (.slice A0_0 l0_0.length c0_0) := (blk_cell BK285.out 0).trans rfl; have hcz34_1 : w32.cell? ⟨gb285, 1, none⟩ = some (.slice A0_1 l0_1.length c0_1) := (blk_cell BK285.out 1).trans rfl; have hcz34_2 : w32.cell? ⟨gb285, 2, none⟩ = some (.slice A0_2 l0_2.length c0_2) := (blk_cell BK285.out 2).trans rfl; have hcz34_3 : w32.cell? ⟨gb285, 3, none⟩ = some (.slice A0_3 l0_3.length c0_3) := (blk_cell BK285.out 3).trans rfl; have hcz34_4 : w32.cell? ⟨gb285, 4, none⟩ = some (.bool a0_4) := (blk_cell BK285.out 4).trans rfl; have hfz34_0 := blk_frozen BK285.out 0; have hfz34_1 := blk_frozen BK285.out 1; have hfz34_2 := blk_frozen BK285.out 2; have hfz34_3 := blk_frozen BK285.out 3; have hfz34_4 := blk_frozen BK285.out 4; have hcz35_0 : w32.cell? ⟨gb286, 0, none⟩ = some (.slice A1_0 l1_0.length c1_0) := (blk_cell BK286.out 0).trans rfl; have hcz35_1 : w32.cell? ⟨gb286, 1, none⟩ = some (.slice A1_1 l1_1.length c1_1) := (blk_cell BK286.out 1).trans rfl; have hcz35_2 : w32.cell? ⟨gb286, 2, none⟩ = some (.slice A1_2 l1_2.length c1_2) := (blk_cell BK286.out 2).trans rfl; have hcz35_3 : w32.cell? ⟨gb286, 3, none⟩ = some (.slice A1_3 l1_3.length c1_3) := (blk_cell BK286.out 3).trans rfl; have hcz35_4 : w32.cell? ⟨gb286, 4, none⟩ = some (.bool a1_4) := (blk_cell BK286.out 4).trans rfl; have hfz35_0 := blk_frozen BK286.out 0; have hfz35_1 := blk_frozen BK286.out 1; have hfz35_2 := blk_frozen BK286.out 2; have hfz35_3 := blk_frozen BK286.out 3; have hfz35_4 := blk_frozen BK286.out 4) | ((with_reducible refine gate_callee (f := 83) rfl ?_); refine goesL_ (some 13) rfl rfl Tryd.func83 (by kernel_rfl) rfl #[.slice A0_0 l0_0.length c0_0, .slice A1_0 l1_0.length c1_0] rfl (by (try simp only [List.map_toArray, List.map_cons, List.map_nil]); first | done | rfl | (simp only [List.length_drop, List.length_take]; rfl)) ?_; (with_reducible refine (caesuraref0_SameRows.calls k _ _ l0_0 _ _ l1_0 false _ ?side1 ?side2 ?side3 ?side4 A3.out).mono ?_); (case side1 => repeat (first | exact (Kd.C_below HR0_0.out HB.out) | (with_reducible refine Kd.C_alloc ?_ _) | (with_reducible refine Kd.C_drewN ?_ _) | (with_reducible refine Kd.C_drew ?_))); (case side2 => exact HC0_0.out); (case side3 => repeat (first | exact (Kd.C_below HR1_0.out HB.out) | (with_reducible refine Kd.C_alloc ?_ _) | (with_reducible refine Kd.C_drewN ?_ _) | (with_reducible refine Kd.C_drew ?_))); (case side4 => exact HC1_0.out); rintro e w' ⟨rfl, ⟨nd, rfl⟩⟩; refine ⟨_, rfl, ?_⟩) | ((with_reducible refine gate_callee (f := 16) rfl ?_); refine goesL_ (some 18) rfl rfl Tryd.func16 (by kernel_rfl) rfl #[.slice A0_1 l0_1.length c0_1, .slice A1_1 l1_1.length c1_1] rfl (by (try simp only [List.map_toArray, List.map_cons, List.map_nil]); first | done | rfl | (simp only [List.length_drop, List.length_take]; rfl)) ?_; (with_reducible refine (caesuraref0_SameInts.calls k _ _ l0_1 _ _ l1_1 t288 _ ?side1 ?side2 ?side3 ?side4 A4.out).mono ?_); (case side1 => repeat (first | exact (Kd.C_below HR0_1.out (by repeat (first | (with_reducible first | exact HB.out | apply below_alloc | apply pw_below_drewN | apply below_drew1 | refine below_set ?_ GE285.out | refine below_set ?_ GE286.out) | exact HB.out))) | (with_reducible refine Kd.C_alloc ?_ _) | (with_reducible refine Kd.C_drewN ?_ _) | (with_reducible refine Kd.C_drew ?_))); (case side2 => exact HC0_1.out); (case side3 => repeat (first | exact (Kd.C_below HR1_1.out (by repeat (first | (with_reducible first | exact HB.out | apply below_alloc | apply pw_below_drewN | apply below_drew1 | refine below_set ?_ GE285.out | refine below_set ?_ GE286.out) | exact HB.out))) | (with_reducible refine Kd.C_alloc ?_ _) | (with_reducible refine Kd.C_drewN ?_ _) | (with_reducible refine Kd.C_drew ?_))); (case side4 => exact HC1_1.out); rintro e w' ⟨rfl, ⟨nd, rfl⟩⟩; refine ⟨_, rfl, ?_⟩) | ((with_reducible refine gate_callee (f := 16) rfl ?_); refine goesL_ (some 23) rfl rfl Tryd.func16 (by kernel_rfl) rfl #[.slice A0_2 l0_2.length c0_2, .slice A1_2 l1_2.length c1_2] rfl (by (try simp only [List.map_toArray, List.map_cons, List.map_nil]); first | done | rfl | (simp only [List.length_drop, List.length_take]; rfl)) ?_; (with_reducible refine (caesuraref0_SameInts.calls k _ _ l0_2 _ _ l1_2 t289 _ ?side1 ?side2 ?side3 ?side4 A5.out).mono ?_); (case side1 => repeat (first | exact (Kd.C_below HR0_2.out (by repeat (first | (with_reducible first | exact HB.out | apply below_alloc | apply pw_below_drewN | apply below_drew1 | refine below_set ?_ GE285.out | refine below_set ?_ GE286.out) | exact HB.out))) | (with_reducible refine Kd.C_alloc ?_ _) | (with_reducible refine Kd.C_drewN ?_ _) | (with_reducible refine Kd.C_drew ?_))); (case side2 => exact HC0_2.out); (case side3 => repeat (first | exact (Kd.C_below HR1_2.out (by repeat (first | (with_reducible first | exact HB.out | apply below_alloc | apply pw_below_drewN | apply below_drew1 | refine below_set ?_ GE285.out | refine below_set ?_ GE286.out) | exact HB.out))) | (with_reducible refine Kd.C_alloc ?_ _) | (with_reducible refine Kd.C_drewN ?_ _) | (with_reducible refine Kd.C_drew ?_))); (case side4 => exact HC1_2.out); rintro e w' ⟨rfl, ⟨nd, rfl⟩⟩; refine ⟨_, rfl, ?_⟩) | ((with_reducible refine gate_callee (f := 83) rfl ?_); refine goesL_ (some 28) rfl rfl Tryd.func83 (by kernel_rfl) rfl #[.slice A0_3 l0_3.length c0_3, .slice A1_3 l1_3.length c1_3] rfl (by (try simp only [List.map_toArray, List.map_cons, List.map_nil]); first | done | rfl | (simp only [List.length_drop, List.length_take]; rfl)) ?_; (with_reducible refine (caesuraref0_SameRows.calls k _ _ l0_3 _ _ l1_3 t290 _ ?side1 ?side2 ?side3 ?side4 A6.out).mono ?_); (case side1 => repeat (first | exact (Kd.C_below HR0_3.out (by repeat (first | (with_reducible first | exact HB.out | apply below_alloc | apply pw_below_drewN | apply below_drew1 | refine below_set ?_ GE285.out | refine below_set ?_ GE286.out) | exact HB.out))) | (with_reducible refine Kd.C_alloc ?_ _) | (with_reducible refine Kd.C_drewN ?_ _) | (with_reducible refine Kd.C_drew ?_))); (case side2 => exact HC0_3.out); (case side3 => repeat (first | exact (Kd.C_below HR1_3.out (by repeat (first | (with_reducible first | exact HB.out | apply below_alloc | apply pw_below_drewN | apply below_drew1 | refine below_set ?_ GE285.out | refine below_set ?_ GE286.out) | exact HB.out))) | (with_reducible refine Kd.C_alloc ?_ _) | (with_reducible refine Kd.C_drewN ?_ _) | (with_reducible refine Kd.C_drew ?_))); (case side4 => exact HC1_3.out); rintro e w' ⟨rfl, ⟨nd, rfl⟩⟩; refine ⟨_, rfl, ?_⟩))
  go_ret
  exact ⟨by first | rfl | (simp [errW_none, errW_some] <;> rfl) | (simp [*, errW_none, errW_some] <;> rfl), by repeat (first | (with_reducible first | exact HB.out | apply below_alloc | apply pw_below_drewN | apply below_drew1 | refine below_set ?_ GE285.out | refine below_set ?_ GE286.out) | exact HB.out)⟩

end Go.Proofs.YtfonajakaimnoaaDoor.Lib

/- SameInts, SameRows, SamePositions of a thing and itself. -/
namespace Go.Proofs.YtfonajakaimnoaaDoor.C11
open Go.RowKit Go.Proofs.YtfonajakaimnoaaDoorW.PrintWords Go.Proofs.YtfonajakaimnoaaDoorW.PrintLast Go.Proofs.YtfonajakaimnoaaDoorW.PrintMore Go.Proofs.YtfonajakaimnoaaDoor.Lib Lent Go.Proofs.YtfonajakaimnoaaDoor.Fn
set_option linter.unusedVariables false
set_option linter.unusedSimpArgs false

theorem sameInts_loop (l : List Int) (hl : l.length ≤ 9223372036854775807) : ∀ (d i k : Nat), i ≤ l.length → l.length - i = d → d < k → caesuraref0_SameInts.l0 k l l i = some true := by
 intro d
 induction d with
 | zero =>
  intro i k hi hd hk
  obtain ⟨k, rfl⟩ : ∃ m, k = m + 1 := ⟨k - 1, by omega⟩
  simp only [caesuraref0_SameInts.l0]
  rw [if_neg (by omega)]
 | succ d ih =>
  intro i k hi hd hk
  obtain ⟨k, rfl⟩ : ∃ m, k = m + 1 := ⟨k - 1, by omega⟩
  have hw : wrap64 ((i : Int) + 1) = ((i + 1 : Nat) : Int) := by rw [wrap_succ (n := l.length) (by omega) (by omega) (by omega)]; omega
  simp only [caesuraref0_SameInts.l0]
  rw [if_pos (by omega), if_pos (by omega), if_pos (by omega), hw]
  simp only [if_true]
  exact ih (i + 1) k (by omega) (by omega) (by omega)
theorem sameInts_ev (l : List Int) (hl : l.length ≤ 9223372036854775807) : Ev (fun k => caesuraref0_SameInts.f k l l) true :=
 ⟨l.length + 1, fun k hk => by
  show caesuraref0_SameInts.f k l l = some true
  unfold caesuraref0_SameInts.f
  rw [if_pos rfl]
  exact sameInts_loop l hl l.length 0 k (by omega) (by omega) (by omega)⟩
theorem sameRows_loop (l : LL) (hl : l.length ≤ 9223372036854775807) (hr : ∀ x ∈ l, x.length ≤ 9223372036854775807) : ∀ (d i : Nat), i ≤ l.length → l.length - i = d → Ev (fun k => caesuraref0_SameRows.l0 k l l i) true := by
 intro d
 induction d with
 | zero =>
  intro i hi hd
  refine Ev.step (f := fun _ => some true) (fun k => ?_) (Ev.now _)
  simp only [caesuraref0_SameRows.l0]
  rw [if_neg (by omega)]
 | succ d ih =>
  intro i hi hd
  have hw : wrap64 ((i : Int) + 1) = ((i + 1 : Nat) : Int) := by rw [wrap_succ (n := l.length) (by omega) (by omega) (by omega)]; omega
  have hrow : (rd_L1 l (i : Int)).length ≤ 9223372036854775807 := by
   unfold rd_L1
   rw [List.getD_eq_getElem?_getD]
   cases h : l[((i : Int)).toNat]? with
   | none => simp
   | some y => exact hr y (List.mem_of_getElem? h)
  refine Ev.step (f := fun k => (caesuraref0_SameInts.f k (rd_L1 l i) (rd_L1 l i)).bind fun t => if t = true then caesuraref0_SameRows.l0 k l l ((i + 1 : Nat) : Int) else some false) (fun k => ?_) (Ev.bind (sameInts_ev _ hrow) (Ev.congr (fun k => if_pos rfl) (ih (i + 1) (by omega) (by omega))))
  conv => lhs; unfold caesuraref0_SameRows.l0
  rw [if_pos (by omega), if_pos (by omega), if_pos (by omega), hw]
theorem sameRows_ev (l : LL) (hl : l.length ≤ 9223372036854775807) (hr : ∀ x ∈ l, x.length ≤ 9223372036854775807) : Ev (fun k => caesuraref0_SameRows.f k l l) true :=
 Ev.congr (fun k => by unfold caesuraref0_SameRows.f; rw [if_pos rfl]; rfl) (sameRows_loop l hl hr l.length 0 (by omega) (by omega))
theorem same_ev (L : LL) (F La : List Int) (Fo : LL) (b : Bool) (h0 : L.length ≤ 9223372036854775807) (h0r : ∀ x ∈ L, x.length ≤ 9223372036854775807) (h1 : F.length ≤ 9223372036854775807) (h2 : La.length ≤ 9223372036854775807) (h3 : Fo.length ≤ 9223372036854775807) (h3r : ∀ x ∈ Fo, x.length ≤ 9223372036854775807) :
  Ev (fun k => caesuraref0_SamePositions.f k L F La Fo b L F La Fo b) true := by
 unfold caesuraref0_SamePositions.f
 refine Ev.bind (sameRows_ev L h0 h0r) (Ev.bind (sameInts_ev F h1) (Ev.bind (sameInts_ev La h2) (Ev.bind (sameRows_ev Fo h3 h3r) ?_)))
 simp only [if_true, beq_self_eq_true]
 exact Ev.now _
end Go.Proofs.YtfonajakaimnoaaDoor.C11

/- The refusals that this chapter's answers can be: three pointers, no two of which are one; the number of each. -/
namespace Go.Proofs.YtfonajakaimnoaaDoor.C11
open Go.RowKit Go.ChangeShapes Go.Proofs.YtfonajakaimnoaaDoorW.PrintWords Go.Proofs.YtfonajakaimnoaaDoorW.PrintLast Go.Proofs.YtfonajakaimnoaaDoorW.PrintMore Lent
set_option linter.unusedVariables false
set_option linter.unusedSimpArgs false
set_option maxRecDepth 100000

theorem errRow (u : TypeId) (h : Tryd.prog.typeName? 3 u = some "*errors.errorString") : u = 162 :=
 typeName_ptr_named (nm := "errors.errorString") (by rw [show "*" ++ "errors.errorString" = "*errors.errorString" from by decide +kernel]; kernel_rfl) (by kernel_rfl) (by decide) u (by rw [show "*" ++ "errors.errorString" = "*errors.errorString" from by decide +kernel]; exact h)

abbrev errV (a : Addr) : Value := .iface 162 (.pointer (some a))
structure Sen (a0 a1 a2 : Addr) (W : World) : Prop where
 h0 : W.cell? ⟨0, 0, none⟩ = some (errV a0)
 h1 : W.cell? ⟨1, 0, none⟩ = some (errV a1)
 h2 : W.cell? ⟨2, 0, none⟩ = some (errV a2)
 k0 : ∃ c t, W.heap[a0.block]? = some (.cells c t (0, 0))
 k1 : ∃ c t, W.heap[a1.block]? = some (.cells c t (0, 0))
 k2 : ∃ c t, W.heap[a2.block]? = some (.cells c t (0, 0))
 n01 : a0 ≠ a1
 n02 : a0 ≠ a2
 n12 : a1 ≠ a2
theorem Sen.step {a0 a1 a2 : Addr} {W W' : World} (h : Sen a0 a1 a2 W) (hb : Below W.heap.size W W') : Sen a0 a1 a2 W' :=
 ⟨pw_cell_below hb h.h0, pw_cell_below hb h.h1, pw_cell_below hb h.h2, h.k0.imp fun _ ⟨t, e⟩ => ⟨t, (hb.block _ (blk_lt e)).trans e⟩, h.k1.imp fun _ ⟨t, e⟩ => ⟨t, (hb.block _ (blk_lt e)).trans e⟩, h.k2.imp fun _ ⟨t, e⟩ => ⟨t, (hb.block _ (blk_lt e)).trans e⟩, h.n01, h.n02, h.n12⟩

theorem sen_of_laid {W : World} {n0 n1 n2 : String} {x0 x1 x2 : List UInt8} {r : List (String × DataW Unit)} (e0 : n0 = "caesura/api.ErrArg") (e1 : n1 = "caesura/api.ErrText") (e2 : n2 = "caesura/api.ErrMany")
  (h : laidMet Tryd.prog ((n0, .iface "*errors.errorString" (.ptr (.agg [.lit (.string x0)]))) :: (n1, .iface "*errors.errorString" (.ptr (.agg [.lit (.string x1)]))) :: (n2, .iface "*errors.errorString" (.ptr (.agg [.lit (.string x2)]))) :: r) W) :
  ∃ a0 a1 a2, Sen a0 a1 a2 W := by
 subst e0 e1 e2
 have G0 : Tryd.prog.globalNamed "caesura/api.ErrArg" = some 0 := by kernel_rfl
 have G1 : Tryd.prog.globalNamed "caesura/api.ErrText" = some 1 := by kernel_rfl
 have G2 : Tryd.prog.globalNamed "caesura/api.ErrMany" = some 2 := by kernel_rfl
 have T0 : (Tryd.prog.globals[(0 : Nat)]?).map (·.type) = some 30 := by kernel_rfl
 have T1 : (Tryd.prog.globals[(1 : Nat)]?).map (·.type) = some 30 := by kernel_rfl
 have T2 : (Tryd.prog.globals[(2 : Nat)]?).map (·.type) = some 30 := by kernel_rfl
 obtain ⟨ps, ⟨g0, t0, cs0, f0, p0, q0, hg0, ht0, hv0, hd0, ⟨g1, t1, cs1, f1, p1, q1, hg1, ht1, hv1, hd1, ⟨g2, t2, cs2, f2, p2, q2, hg2, ht2, hv2, hd2, _, z2⟩, z1⟩, z0⟩, hnd, hrows⟩ := h
 obtain rfl := Option.some.inj (G0.symm.trans hg0)
 obtain rfl := Option.some.inj (G1.symm.trans hg1)
 obtain rfl := Option.some.inj (G2.symm.trans hg2)
 obtain rfl := Option.some.inj (T0.symm.trans ht0)
 obtain rfl := Option.some.inj (T1.symm.trans ht1)
 obtain rfl := Option.some.inj (T2.symm.trans ht2)
 subst z2
 subst z1
 subst z0
 obtain ⟨l0⟩ := cs0
 obtain ⟨l1⟩ := cs1
 obtain ⟨l2⟩ := cs2
 have ok0 : ∀ u v, l0 = [.iface u v] → Value.okWide Tryd.prog W .any 0 u v := fun u v e => by
  subst e
  exact (hrows 0 0 (by simp [MemPlace.row])).2 u v (by simpa using World.var?_cell hg0 hv0 0)
 have ok1 : ∀ u v, l1 = [.iface u v] → Value.okWide Tryd.prog W .any 0 u v := fun u v e => by
  subst e
  exact (hrows 1 0 (by simp [MemPlace.row])).2 u v (by simpa using World.var?_cell hg1 hv1 0)
 have ok2 : ∀ u v, l2 = [.iface u v] → Value.okWide Tryd.prog W .any 0 u v := fun u v e => by
  subst e
  exact (hrows 2 0 (by simp [MemPlace.row])).2 u v (by simpa using World.var?_cell hg2 hv2 0)
 have c1 : Tryd.prog.cellsOf 177 = 1 := by kernel_rfl
 have c2 : Tryd.prog.cellsOf 9 = 1 := by kernel_rfl
 obtain ⟨a0, s0, rfl, hc0, hs0, hz0, rfl⟩ := errorString_of_trod Tryd.underlying30 errRow Tryd.underlying162 Tryd.underlying177 rfl rfl Tryd.underlying9 c1 c2 hd0 ok0
 obtain ⟨a1, s1, rfl, hc1, hs1, hz1, rfl⟩ := errorString_of_trod Tryd.underlying30 errRow Tryd.underlying162 Tryd.underlying177 rfl rfl Tryd.underlying9 c1 c2 hd1 ok1
 obtain ⟨a2, s2, rfl, hc2, hs2, hz2, rfl⟩ := errorString_of_trod Tryd.underlying30 errRow Tryd.underlying162 Tryd.underlying177 rfl rfl Tryd.underlying9 c1 c2 hd2 ok2
 refine ⟨a0, a1, a2, by simpa using World.var?_cell hg0 hv0 0, by simpa using World.var?_cell hg1 hv1 0, by simpa using World.var?_cell hg2 hv2 0, (hrows a0.block a0.off (by simp [MemPlace.row])).1, (hrows a1.block a1.off (by simp [MemPlace.row])).1, (hrows a2.block a2.off (by simp [MemPlace.row])).1, ?_, ?_, ?_⟩
 ·rintro rfl
  simp [MemPlace.row] at hnd
 ·rintro rfl
  simp [MemPlace.row] at hnd
 ·rintro rfl
  simp [MemPlace.row] at hnd

theorem errInfo : ∃ i j, Tryd.prog.info? 162 = some i ∧ i.comparable = true ∧ Tryd.prog.info? 177 = some j ∧ j.size ≠ 0 := by
 have h1 : (Tryd.prog.info? 162).map (·.comparable) = some true := by kernel_rfl
 have h2 : (Tryd.prog.info? 177).map (·.size) = some 1 := by kernel_rfl
 obtain ⟨i, hi, e1⟩ := Option.map_eq_some_iff.1 h1
 obtain ⟨j, hj, e2⟩ := Option.map_eq_some_iff.1 h2
 exact ⟨i, j, hi, e1, hj, by rw [e2]; decide⟩
theorem eq_same (w : World) (a : Addr) : (binOp .eql 30 (errV a) (errV a)).run Tryd.prog w = .ok (.bool true) w := by
 obtain ⟨i, j, h1, h2, h3, _⟩ := errInfo
 exact run_eql_iface_ptr_same w a Tryd.underlying30 Tryd.underlying162 h1 h2 h3
theorem eq_other (w : World) {a b : Addr} (hne : a ≠ b) (ha : ∃ c t, w.heap[a.block]? = some (.cells c t (0, 0))) (hb : ∃ c t, w.heap[b.block]? = some (.cells c t (0, 0))) : (binOp .eql 30 (errV a) (errV b)).run Tryd.prog w = .ok (.bool false) w := by
 obtain ⟨i, j, h1, h2, h3, h4⟩ := errInfo
 obtain ⟨_, _, ha⟩ := ha
 obtain ⟨_, _, hb⟩ := hb
 exact run_eql_iface_ptr_other w Tryd.underlying30 Tryd.underlying162 h1 h2 h3 h4 hne ha hb
theorem errMeths : Tryd.prog.underlying 30 = some (.interface (Tryd.prog.methodsAt 30)) := by simp [Program.methodsAt, Tryd.underlying30]
set_option maxHeartbeats 1000000 in
theorem num_calls {a0 a1 a2 : Addr} (w : World) (h : Sen a0 a1 a2 w) (c : Nat) (hc : c = 0 ∨ c = 1 ∨ c = 3) :
  Calls Tryd.prog 17 #[errMA (errV a2) (errV a0) c] w fun e w' => e = .returned (.int .i64 c) ∧ Below w.heap.size w w' := by
 have q0 := h.h0
 have q1 := h.h1
 have q2 := h.h2
 rcases hc with rfl | rfl | rfl
 ·have e : errMA (errV a2) (errV a0) 0 = .nilIface := rfl
  rw [e]
  have hn := run_eql_nil_nil (P := Tryd.prog) w 30 errMeths
  clear e h
  go_enter Tryd.func17, Tryd.ntmps17
  go_wp2
  go_ret
  exact ⟨rfl, Below.refl _ _⟩
 ·have e : errMA (errV a2) (errV a0) 1 = errV a0 := rfl
  rw [e]
  have hn := run_eql_held_nil (P := Tryd.prog) w 30 162 (.pointer (some a0)) errMeths
  have hs := eq_same w a0
  clear e h
  go_enter Tryd.func17, Tryd.ntmps17
  go_wp2
  go_ret
  exact ⟨rfl, Below.refl _ _⟩
 ·have e : errMA (errV a2) (errV a0) 3 = errV a2 := rfl
  rw [e]
  have hn := run_eql_held_nil (P := Tryd.prog) w 30 162 (.pointer (some a2)) errMeths
  have hs := eq_same w a2
  have ho0 := eq_other w (Ne.symm h.n02) h.k2 h.k0
  have ho1 := eq_other w (Ne.symm h.n12) h.k2 h.k1
  clear e h
  go_enter Tryd.func17, Tryd.ntmps17
  go_wp2
  go_ret
  exact ⟨rfl, Below.refl _ _⟩
theorem checkC_cases (L : LL) (F La : List Int) (Fo : LL) (s : Int) : checkC L F La Fo s = 0 ∨ checkC L F La Fo s = 1 ∨ checkC L F La Fo s = 3 := by
 unfold checkC
 split
 ·exact .inr (.inr rfl)
 ·split
  ·exact .inl rfl
  ·exact .inr (.inl rfl)
end Go.Proofs.YtfonajakaimnoaaDoor.C11

namespace Go.Proofs.YtfonajakaimnoaaDoor.Lib
open Go.RowKit Go.Proofs.YtfonajakaimnoaaDoorW.PrintWords Go.Proofs.YtfonajakaimnoaaDoorW.PrintLast Go.Proofs.YtfonajakaimnoaaDoorW.PrintMore
attribute [local go_sem] max2_int min2_int max_two min_two max_three min_three max_four min_four   -- for this text's walks alone
set_option linter.unusedVariables false
set_option linter.unusedSimpArgs false

/-! ### caesurakit_Ints: function 71 -/
def caesurakit_Ints.l0 : Nat → List Int → List Int → Int → Option (List Int)
 | 0, _, _, _ => none
 | k + 1, x0, x3, x4 => if x4 < (x0.length : Int) then (if 0 ≤ x4 then (if x3.length < 17592186044416 then (caesurakit_Ints.l0 k x0 (x3 ++ [rd x0 x4]) (wrap64 (x4 + 1))) else (none)) else (none)) else (some x3)
def caesurakit_Ints.f (k : Nat) (l0 : List Int) : Option (List Int) := caesurakit_Ints.l0 k l0 ([] : List Int) 0
theorem caesurakit_Ints.mono_l : ∀ k, (∀ y0 y1 y2, LeO (caesurakit_Ints.l0 k y0 y1 y2) (caesurakit_Ints.l0 (k + 1) y0 y1 y2))
 | 0 => fun _ _ _ r h => by simp [caesurakit_Ints.l0] at h
 | k + 1 => by
  have ih0 := caesurakit_Ints.mono_l k
  ·intro y0 y1 y2
   unfold caesurakit_Ints.l0
   repeat' first
   | (with_reducible exact ih0 _ _ _)
   | (with_reducible exact LeO.refl _)
   | (with_reducible exact LeO.none _)
   | (with_reducible refine LeO.ite ?_ ?_)
   | (with_reducible refine LeO.bind ?_ (fun _ => ?_))
   | exact ih0 _ _ _
   | exact LeO.none _
   | refine LeO.ite ?_ ?_
   | refine LeO.bind ?_ (fun _ => ?_)
theorem caesurakit_Ints.mono : ∀ a0 k, LeO (caesurakit_Ints.f k a0) (caesurakit_Ints.f (k + 1) a0) := by
 intro a0 k
 have ih0 := caesurakit_Ints.mono_l k
 unfold caesurakit_Ints.f
 repeat' first
   | (with_reducible exact ih0 _ _ _)
   | (with_reducible exact LeO.refl _)
   | (with_reducible exact LeO.none _)
   | (with_reducible refine LeO.ite ?_ ?_)
   | (with_reducible refine LeO.bind ?_ (fun _ => ?_))
   | exact ih0 _ _ _
   | exact LeO.none _
   | refine LeO.ite ?_ ?_
   | refine LeO.bind ?_ (fun _ => ?_)
set_option maxHeartbeats 8000000 in
set_option maxRecDepth 100000 in
theorem caesurakit_Ints.calls (k : Nat) (A0 : Option Addr) (c0 : Nat) (l0 : List Int) (r : List Int) (w : World) (hr0 : Kd.C (Kd.int .i64) w A0 l0.length l0) (hc0 : l0.length ≤ c0) (h : caesurakit_Ints.f k l0 = some r) :
  Calls Tryd.prog 71 #[.slice A0 l0.length c0] w fun e w' => ∃ v0_ : Value, e = .returned (v0_) ∧ Kd.R (Kd.int .i64) 3 w' w.heap.size (fun _ => True) v0_ r ∧ Below w.heap.size w w' := by
 have HR0 := Aside0.mk hr0
 have HC0 := Aside0.mk hc0
 clear hr0 hc0
 have HB := Aside0.mk (Below.refl w.heap.size w)
 have H : (caesurakit_Ints.l0 k l0 ([] : List Int) 0) = some r := h
 clear h
 have H' := Aside0.mk H
 clear H
 go_enter Tryd.func71, Tryd.ntmps71
 go_wp2
 go_loopg [3, 4] k (fun kq v3 v4 w' => ∃ (x3_1 : List Int) (x4_1 : Int), v4 = .int .i64 x4_1 ∧ Aside0 (caesurakit_Ints.l0 kq l0 x3_1 x4_1 = some r) ∧ Aside0 (kq ≤ k) ∧ Aside0 (Kd.R (Kd.int .i64) 3 w' w.heap.size (fun _ => True) v3 x3_1) ∧ Aside0 (Below w.heap.size w w'))
 case atStart => exact ⟨(([] : List Int)), (0), (by first | rfl | (simp; done) | (simp [*]; done)), H', ⟨Nat.le_refl _⟩, ⟨by first | exact Kd.R_nil _ _ _ _ _ | exact Kd.N_nil _ _ _ _ _ | exact Kd.V_nil _ _ _ _ _ | exact Kd.Q_nil _ _ _ _ _ | exact Kd.S_nil _ _ _ _ _⟩, ⟨by repeat (first | (with_reducible first | exact HB.out | apply below_alloc | apply pw_below_drewN | apply below_drew1) | exact HB.out)⟩⟩
 case round =>
  clear H'
  obtain ⟨x3_1, x4_1, rfl, HA, HK1, HO_3, HB⟩ := hrel
  cases gk with
  | zero => exact absurd HA.out (by simp [caesurakit_Ints.l0])
  | succ k1 =>
   have H := HA.out
   clear HA
   simp only [caesurakit_Ints.l0] at H
   by_cases c2 : x4_1 < (l0.length : Int)
   ·rw [if_pos c2] at H
    have c2b0 : decide (x4_1 < (l0.length : Int)) = true := decide_eq_true c2
    clear c2
    by_cases c3 : 0 ≤ x4_1
    ·rw [if_pos c3] at H
     have c3b0 : decide (0 ≤ x4_1) = true := decide_eq_true c3
     clear c3
     by_cases c4 : x3_1.length < 17592186044416
     ·rw [if_pos c4] at H
      have LMc4 := Aside0.mk c4
      clear c4
      obtain ⟨y224, hy224⟩ : ∃ y_ : List Int, y_ = (x3_1 ++ [rd l0 x4_1]) := ⟨_, rfl⟩
      replace H : (caesurakit_Ints.l0 k1 l0 y224 (wrap64 (x4_1 + 1))) = some r := by first | (rw [hy224]; with_reducible exact H) | (have H2_ := (Option.bind_some _ _).symm.trans H; rw [hy224]; with_reducible exact H2_) | (have H2_ := (Option.bind_some _ _).symm.trans H; with_reducible exact H2_) | with_reducible exact H | (rw [hy224]; exact H) | exact H
      have Ny224 := Aside0.mk hy224
      clear hy224
      have H' := Aside0.mk H
      clear H
      have p223 : 0 ≤ (x4_1 : Int) := of_decide_eq_true (by first | (with_reducible assumption) | assumption)
      have q223 : x4_1 < (l0.length : Int) := of_decide_eq_true (by first | (with_reducible assumption) | assumption)
      obtain ⟨ad223, e223, hx223_0⟩ := Kd.at_int HR0.out x4_1 p223 q223
      cases e223
      replace hx223_0 := (HB.out.cell (World.block_lt_of_cell? w _ hx223_0)).trans hx223_0
      replace p223 := eq_true p223
      replace q223 := eq_true q223
      go_wp2_with (first | ((with_reducible refine gate_builtin (b := .append) (xs := #[.tmp 11, .tmp 16]) rfl ?_); at_builtin; refine Kd.R_append (Kd.int .i64) (w0 := w) w.heap.size rfl (.tmp 11) (.tmp 16) 25 3 (.int .i64 0) 8 rfl Tryd.underlying25 info3 rfl (by decide) (by omega) u3 x3_1 (rd l0 x4_1) [.int .i64 (rd l0 x4_1)] (fun _ => True) (fun _ => False) rfl rfl ?aP (fun _ hk => hk.elim) ?aF ?aO ?aB ?aS ?aL ?_; (case aP => exact rfl); (case aB => exact (by repeat (first | (with_reducible first | exact HB.out | apply below_alloc | apply pw_below_drewN | apply below_drew1) | exact HB.out))); (case aF => exact (fun _ _ => trivial)); (case aO => exact (by (with_reducible repeat (first | apply Kd.R_alloc | apply Kd.R_drewN | apply Kd.R_drew)); exact HO_3.out)); (case aS => exact (below_size (by repeat (first | (with_reducible first | exact HB.out | apply below_alloc | apply pw_below_drewN | apply below_drew1) | exact HB.out)))); (case aL => have := LMc4.out; omega); intro v225 w5 ho hb hg hat; rw [← Ny224.out] at ho; have n0_ := Aside0.mk (hb); have n1_ := Aside0.mk (ho); clear HB; clear HO_3; have HB := n0_; have HO226 := n1_; clear n0_ n1_; clear ho hb hg hat))
      go_roundg k1
      case measure => have := HK1.out; omega
      case rel => exact ⟨(y224), (wrap64 (x4_1 + 1)), (by first | rfl | (simp; done) | (simp [*]; done)), H', ⟨by have := HK1.out; omega⟩, ⟨by (with_reducible repeat (first | apply Kd.R_alloc | apply Kd.R_drewN | apply Kd.R_drew)); exact HO226.out⟩, ⟨by repeat (first | (with_reducible first | exact HB.out | apply below_alloc | apply pw_below_drewN | apply below_drew1) | exact HB.out)⟩⟩
     ·rw [if_neg c4] at H
      exact absurd H (by simp)
    ·rw [if_neg c3] at H
     exact absurd H (by simp)
   ·rw [if_neg c2] at H
    have c2b0 : decide (x4_1 < (l0.length : Int)) = false := decide_eq_false c2
    clear c2
    obtain rfl := Option.some.inj H
    go_wp2
    go_ret
    exact ⟨_, by first | rfl | (simp [errW_none, errW_some] <;> rfl) | (simp [*, errW_none, errW_some] <;> rfl), by (with_reducible repeat (first | apply Kd.R_alloc | apply Kd.R_drewN | apply Kd.R_drew)); exact HO_3.out, by repeat (first | (with_reducible first | exact HB.out | apply below_alloc | apply pw_below_drewN | apply below_drew1) | exact HB.out)⟩

end Go.Proofs.YtfonajakaimnoaaDoor.Lib

/- caesurakit.List and ListLeft: the list with its two marks behind it, and the question after them. -/
namespace Go.Proofs.YtfonajakaimnoaaDoor.Lend
open Go.RowKit Go.Proofs.YtfonajakaimnoaaDoorW.PrintWords Go.Proofs.YtfonajakaimnoaaDoorW.PrintLast Go.Proofs.YtfonajakaimnoaaDoorW.PrintMore Go.Proofs.YtfonajakaimnoaaDoor.Lib Lent Go.Proofs.YtfonajakaimnoaaDoor.Fn Go.Proofs.YtfonajakaimnoaaDoor.C11
set_option linter.unusedVariables false
set_option linter.unusedSimpArgs false
attribute [local go_sem] max2_int min2_int max_two min_two max_three min_three max_four min_four

theorem ints_loop (l : List Int) (hl : l.length ≤ 17592186043904) : ∀ (d i k : Nat) (acc : List Int), i ≤ l.length → l.length - i = d → acc.length = i → d < k → caesurakit_Ints.l0 k l acc i = some (acc ++ l.drop i) := by
 intro d
 induction d with
 | zero =>
  intro i k acc hi hd ha hk
  obtain ⟨k, rfl⟩ : ∃ m, k = m + 1 := ⟨k - 1, by omega⟩
  simp only [caesurakit_Ints.l0]
  rw [if_neg (by omega), List.drop_of_length_le (by omega), List.append_nil]
 | succ d ih =>
  intro i k acc hi hd ha hk
  obtain ⟨k, rfl⟩ : ∃ m, k = m + 1 := ⟨k - 1, by omega⟩
  have hw : wrap64 ((i : Int) + 1) = ((i + 1 : Nat) : Int) := by rw [wrap_succ (n := l.length) (by omega) (by omega) (by omega)]; omega
  simp only [caesurakit_Ints.l0]
  rw [if_pos (by omega), if_pos (by omega), if_pos (by omega), hw, ih (i + 1) k _ (by omega) (by omega) (by simp [ha]) (by omega)]
  have : rd l (i : Int) = l[i] := by
   unfold rd
   rw [show ((i : Int)).toNat = i from rfl, List.getD_eq_getElem?_getD, List.getElem?_eq_getElem (by omega)]
   rfl
  rw [this, List.append_assoc, List.drop_eq_getElem_cons (show i < l.length by omega)]
  rfl
theorem ints_eq (l : List Int) (hl : l.length ≤ 17592186043904) : caesurakit_Ints.f (l.length + 1) l = some l := by
 unfold caesurakit_Ints.f
 have := ints_loop l hl l.length 0 (l.length + 1) [] (by omega) (by omega) rfl (by omega)
 simpa using this
/-- a cut up to any place within the room -/
theorem cut_past (A : Option Addr) (n c : Nat) (j : Int) (h0 : 0 ≤ j) (hj : j ≤ (c : Int)) (W : World) : (Instr.slice 25 (.slice A n c) none (some (.int .i64 j)) none).run Tryd.prog W = .ok (.slice A j.toNat c) W := by
 obtain ⟨i, hi, _⟩ := Option.map_eq_some_iff.1 info3
 have hel : Tryd.prog.elem 25 = 3 := by simp [Program.elem, Tryd.underlying25]
 have hu : Tryd.prog.underlying 25 = some (.slice (Tryd.prog.elem 25)) := by rw [hel]; exact Tryd.underlying25
 have ha : (A.map fun x => x.add 0) = A := by cases A <;> simp [Addr.add]
 rw [run_slice_h W 25 A n c hu .i64 j h0 hj, hel]
 simp [sizeOf, typeInfo, hi, sliced, ha, Result.andThen]
abbrev marks (l : List Int) : List Int := l ++ [-77, -77]
theorem two_lit {W : World} : Kd.C kI (W.alloc (.cells #[.int .i64 (-77), .int .i64 (-77)] 3)) (some ⟨W.heap.size, 0, none⟩) 2 [-77, -77] :=
 ⟨rfl, by decide, fun _ => ⟨_, rfl, fun j p hj => by
  rcases j with _ | _ | j
  ·simp at hj
   subst hj
   refine ⟨_, rfl, rfl, fun i u hu => ?_⟩
   cases i with
   | zero =>
    simp only [List.getElem?_cons_zero, Option.some.injEq] at hu
    subst hu
    show (W.alloc _).cell? ⟨W.heap.size, 0, none⟩ = _
    go_simp
   | succ i => simp at hu
  ·simp at hj
   subst hj
   refine ⟨_, rfl, rfl, fun i u hu => ?_⟩
   cases i with
   | zero =>
    simp only [List.getElem?_cons_zero, Option.some.injEq] at hu
    subst hu
    show (W.alloc _).cell? ⟨W.heap.size, 1, none⟩ = _
    go_simp
   | succ i => simp at hu
  ·simp at hj⟩⟩

theorem marked_row {w : World} {base : Nat} {v : Value} {l : List Int} (h : Kd.R kI 3 w base (fun _ => True) v (l ++ [-77, -77])) :
  ∃ A c m, v = .slice A m c ∧ Kd.R kI 3 w base (fun _ => True) (.slice A (marks l).length c) (marks l) ∧ ∀ W : World, (Instr.slice 25 (.slice A m c) none (some (.int .i64 l.length)) none).run Tryd.prog W = .ok (.slice A l.length c) W := by
 obtain ⟨A, c, e1, hle, _⟩ := Kd.R_reads h
 have hm : (l ++ [-77, -77]).length = l.length + 2 := by simp
 refine ⟨A, c, _, e1, by rw [← e1]; exact h, fun W => ?_⟩
 have := cut_past A (l ++ [-77, -77]).length c (l.length : Int) (by omega) (by omega) W
 rwa [Int.toNat_natCast] at this

set_option maxHeartbeats 2000000 in
set_option maxRecDepth 10000 in
theorem list_calls (A0 : Option Addr) (c0 : Nat) (l : List Int) (w : World) (hr : Kd.C kI w A0 l.length l) (hc : l.length ≤ c0) (hl : l.length ≤ 17592186043904) :
  Calls Tryd.prog 21 #[.slice A0 l.length c0] w fun e w' => ∃ A c, e = .returned (.slice A l.length c) ∧ Kd.R kI 3 w' w.heap.size (fun _ => True) (.slice A (marks l).length c) (marks l) ∧ Below w.heap.size w w' := by
 have hu := Tryd.underlying25
 have HR := Aside0.mk hr
 have HL := Aside0.mk hl
 have HC := Aside0.mk hc
 clear hr hc
 go_enter Tryd.func21, Tryd.ntmps21
 go_wp2_with fail
 refine (caesurakit_Ints.calls (l.length + 1) A0 c0 l l w HR.out HC.out (ints_eq l HL.out)).mono ?_
 rintro e w1 ⟨v, rfl, ho, hb⟩
 have HO := Aside0.mk ho
 have HB := Aside0.mk hb
 clear ho hb
 go_wp2_with ((with_reducible refine gate_builtin (b := .append) (xs := #[.tmp 6, .tmp 7]) rfl ?_); at_builtin; refine Kd.R_append_rows kI (w0 := w) w.heap.size rfl (.tmp 6) (.tmp 7) 25 3 (.int .i64 0) 8 rfl Tryd.underlying25 info3 rfl (by decide) (by omega) _ l [-77, -77] _ _ _ (fun _ => True) (fun _ => False) rfl rfl ?aO ?aR (fun _ _ h => h) (fun _ h => h.elim) ?aF ?aB ?aS ?aL ?_; (case aR => exact two_lit); (case aB => exact below_alloc HB.out _); (case aF => exact (fun _ _ => trivial)); (case aO => exact Kd.R_alloc HO.out _); (case aS => exact (by have := HB.out.size; simp; omega)); (case aL => have := HL.out; simp; omega); intro vz wz hoz hbz hgz hatz; have HB1 := Aside0.mk hbz; obtain ⟨A, c, m, e1, HO2, hcut⟩ := marked_row hoz; subst e1; have HO3 := Aside0.mk HO2; clear HO2 hoz hbz hgz hatz)
 go_ret
 exact ⟨A, c, rfl, HO3.out, HB1.out⟩

/-- The marks stand where the row with its marks is read. -/
theorem mark_at {w : World} {A : Option Addr} {l : List Int} (h : Kd.C kI w A (marks l).length (marks l)) : ∃ ad, A = some ad ∧ w.cell? (ad.add l.length) = some (.int .i64 (-77)) ∧ w.cell? (ad.add (l.length + 1)) = some (.int .i64 (-77)) := by
 obtain ⟨ad, e, h1⟩ := int_at h l.length (-77) (by simp [marks])
 obtain ⟨ad', e', h2⟩ := int_at h (l.length + 1) (-77) (by simp [marks])
 cases e
 cases e'
 exact ⟨ad, rfl, h1, h2⟩
set_option maxHeartbeats 2000000 in
set_option maxRecDepth 10000 in
theorem listLeft_calls (A : Option Addr) (c : Nat) (l : List Int) (w : World) (hr : Kd.C kI w A (marks l).length (marks l)) (hc : (marks l).length ≤ c) (hl : l.length ≤ 17592186043904) :
  Calls Tryd.prog 28 #[.slice A l.length c] w fun e w' => e = .returned (.bool true) ∧ Below w.heap.size w w' := by
 have hu := Tryd.underlying25
 obtain ⟨ad, rfl, h1, h2⟩ := mark_at hr
 have hm : (marks l).length = l.length + 2 := by simp [marks]
 have hcut := cut_past (some ad) l.length c ((l.length : Int) + 2) (by omega) (by omega)
 have e2 : ((l.length : Int) + 2).toNat = l.length + 2 := by omega
 rw [e2] at hcut
 have hb1 : (l.length : Int) < ((l.length + 2 : Nat) : Int) := by omega
 have hb2 : (l.length : Int) + 1 < ((l.length + 2 : Nat) : Int) := by omega
 have hb3 : l.length < l.length + 2 := by omega
 have hb4 : l.length + 1 < l.length + 2 := by omega
 have h3 : w.cell? { block := ad.block, off := ad.off + (l.length + 1) } = some (.int .i64 (-77)) := by simpa [Addr.add] using h2
 have HR := Aside0.mk hr
 clear hr hm e2
 go_enter Tryd.func28, Tryd.ntmps28
 go_wp2_with fail
 repeat (go_quiet (fail); try go_wp2)
 go_ret
 exact ⟨rfl, by repeat (first | exact Below.refl _ _ | apply pw_below_drewN | apply below_drew1)⟩
end Go.Proofs.YtfonajakaimnoaaDoor.Lend

/- Rows that are lent with marks behind each of them, and one more row behind all. -/
namespace Go.Proofs.YtfonajakaimnoaaDoor.Lend
open Go.RowKit Go.Proofs.YtfonajakaimnoaaDoorW.PrintWords Go.Proofs.YtfonajakaimnoaaDoorW.PrintLast Go.Proofs.YtfonajakaimnoaaDoorW.PrintMore Go.Proofs.YtfonajakaimnoaaDoor.Lib Lent Go.Proofs.YtfonajakaimnoaaDoor.Fn Go.Proofs.YtfonajakaimnoaaDoor.C11
set_option linter.unusedVariables false
set_option linter.unusedSimpArgs false

/-- a row that is lent: what it says, and what stands behind it in the same memory -/
def kM : Kd (List Int × List Int) where
 sz := 1
 E := 3 :: kI.E
 K := fun w x cs => ∃ A c, cs = [.slice A x.1.length c] ∧ (x.1 ++ x.2).length ≤ c ∧ kI.C w A (x.1 ++ x.2).length (x.1 ++ x.2)
 M := fun w base ok x cs => ∃ A c, cs = [.slice A x.1.length c] ∧ kI.R 3 w base ok (.slice A (x.1 ++ x.2).length c) (x.1 ++ x.2)
 K_len := by
  rintro w x cs ⟨A, c, rfl, _⟩
  rfl
 K_one := by
  rintro w x cs ⟨A, c, rfl, _⟩ u hu
  rw [List.mem_singleton.1 hu]
  rfl
 K_below := by
  rintro w w1 x cs hb ⟨A, c, rfl, hl, hr⟩
  exact ⟨A, c, rfl, hl, Kd.C_below hr hb⟩
 K_of_M := by
  rintro w base ok x cs ⟨A, c, rfl, h⟩
  obtain ⟨_, hl, hr⟩ := Kd.R_reads' h
  exact ⟨A, c, rfl, hl, hr⟩
 M_mono := by
  rintro w base ok ok' x cs hok ⟨A, c, rfl, h⟩
  exact ⟨A, c, rfl, Kd.R_mono h hok⟩
 M_bound := by
  rintro w base ok x cs ⟨A, c, rfl, h⟩
  exact ⟨A, c, rfl, Kd.R_bound h⟩
 M_move := by
  rintro w w1 base ok x cs hm ⟨A, c, rfl, h⟩
  exact ⟨A, c, rfl, Kd.R_move h hm⟩
 M_lower := by
  rintro w base base' ok x cs hb ⟨A, c, rfl, h⟩
  exact ⟨A, c, rfl, Kd.R_lower h hb⟩
abbrev withMarks (L : LL) : List (List Int × List Int) := L.map fun l => (l, [-77, -77])
abbrev rowsM (L : LL) : List (List Int × List Int) := withMarks L ++ [([-77], [])]
theorem rowsM_length (L : LL) : (rowsM L).length = L.length + 1 := by simp
theorem rowsM_get {L : LL} {k : Nat} (h : k < L.length) : (rowsM L)[k]? = some (L[k], [-77, -77]) := by
 rw [List.getElem?_append_left (by simpa using h), List.getElem?_map, List.getElem?_eq_getElem h]
 rfl
theorem rowsM_last (L : LL) : (rowsM L)[L.length]? = some ([-77], []) := by
 rw [List.getElem?_append_right (by simp)]
 simp
/-- The rows as they are read, without what stands behind them. -/
theorem lent_C {w : World} {A : Option Addr} {xs : List (List Int × List Int)} (h : kM.C w A xs.length xs) : Kd.C kL w A (xs.map (·.1)).length (xs.map (·.1)) := by
 obtain ⟨_, h2, h3⟩ := h
 rw [List.length_map]
 refine ⟨by simp, h2, fun hn => ?_⟩
 obtain ⟨ad, e, hc⟩ := h3 hn
 refine ⟨ad, e, fun j p hj => ?_⟩
 rw [List.getElem?_map] at hj
 obtain ⟨x, hx, rfl⟩ := Option.map_eq_some_iff.1 hj
 obtain ⟨c, hl, ⟨A', c', rfl, hc', hC⟩, hu⟩ := hc j x hx
 refine ⟨_, hl, ⟨A', c', rfl, by rw [List.length_append] at hc'; omega, C_pre hC⟩, hu⟩
theorem rows_C {w : World} {A : Option Addr} {L : LL} (h : kM.C w A (rowsM L).length (rowsM L)) : Kd.C kL w A L.length L := by
 have := lent_C (C_pre h)
 rw [List.map_map, show (L.map ((fun x => x.1) ∘ fun l => (l, [-77, -77]))) = L from by
  conv => rhs; rw [← List.map_id L]
  rfl] at this
 exact this
/-- One of the rows, with what stands behind it. -/
theorem rowM_at {w : World} {A : Option Addr} {n : Nat} {xs : List (List Int × List Int)} (h : kM.C w A n xs) (j : Nat) (x : List Int × List Int) (hj : xs[j]? = some x) :
  ∃ ad A' c', A = some ad ∧ w.cell? (ad.add j) = some (.slice A' x.1.length c') ∧ (x.1 ++ x.2).length ≤ c' ∧ Kd.C kI w A' (x.1 ++ x.2).length (x.1 ++ x.2) := by
 obtain ⟨ad, c, e, ⟨A', c', rfl, h1, h2⟩, hu⟩ := C_nth h j x hj
 have := hu 0 _ rfl
 rw [show j * kM.sz + 0 = j from Nat.mul_one _] at this
 exact ⟨ad, A', c', e, this, h1, h2⟩
end Go.Proofs.YtfonajakaimnoaaDoor.Lend

/- caesurakit.Rows and RowsLeft: rows that are lent with marks behind each of them, and the question after the marks. -/
namespace Go.Proofs.YtfonajakaimnoaaDoor.Lend
open Go.RowKit Go.Proofs.YtfonajakaimnoaaDoorW.PrintWords Go.Proofs.YtfonajakaimnoaaDoorW.PrintLast Go.Proofs.YtfonajakaimnoaaDoorW.PrintMore Go.Proofs.YtfonajakaimnoaaDoor.Lib Lent Go.Proofs.YtfonajakaimnoaaDoor.Fn Go.Proofs.YtfonajakaimnoaaDoor.C11
set_option linter.unusedVariables false
set_option linter.unusedSimpArgs false
attribute [local go_sem] max2_int min2_int max_two min_two max_three min_three max_four min_four

/-- a cut of rows up to any place within the room -/
theorem cut_rows (A : Option Addr) (n c : Nat) (j : Int) (h0 : 0 ≤ j) (hj : j ≤ (c : Int)) (W : World) : (Instr.slice 22 (.slice A n c) none (some (.int .i64 j)) none).run Tryd.prog W = .ok (.slice A j.toNat c) W := by
 obtain ⟨i, hi, _⟩ := Option.map_eq_some_iff.1 info25
 have hel : Tryd.prog.elem 22 = 25 := by simp [Program.elem, Tryd.underlying22]
 have hu : Tryd.prog.underlying 22 = some (.slice (Tryd.prog.elem 22)) := by rw [hel]; exact Tryd.underlying22
 have ha : (A.map fun x => x.add 0) = A := by cases A <;> simp [Addr.add]
 rw [run_slice_h W 22 A n c hu .i64 j h0 hj, hel]
 simp [sizeOf, typeInfo, hi, sliced, ha, Result.andThen]

/-- the row of one mark -/
theorem one_mark {W : World} {base : Nat} (hb : base ≤ W.heap.size) : Kd.R kI 3 (W.alloc (.cells #[.int .i64 (-77)] 3)) base (fun k => k = W.heap.size) (.slice (some ⟨W.heap.size, 0, none⟩) 1 1) [-77] :=
 ⟨fun k hk => by simpa [Value.ownBlock] using hk.symm, [.int .i64 (-77)], ⟨rfl, .inr ⟨W.heap.size, 1, #[.int .i64 (-77)], rfl, hb, heap_alloc_new _ _, by decide, by simp [maxLen], rfl, rfl⟩⟩, by
  refine ⟨rfl, fun j p hj => ?_⟩
  cases j with
  | zero =>
   simp only [List.getElem?_cons_zero, Option.some.injEq] at hj
   subst hj
   rfl
  | succ j => simp at hj⟩

theorem marked_rows {w : World} {base : Nat} {v : Value} {L : LL} (h : Kd.S kM 25 w base (fun _ => True) v (withMarks L ++ [([-77], [])])) :
  ∃ A c m, v = .slice A m c ∧ Kd.S kM 25 w base (fun _ => True) (.slice A (rowsM L).length c) (rowsM L) ∧ ∀ W : World, (Instr.slice 22 (.slice A m c) none (some (.int .i64 L.length)) none).run Tryd.prog W = .ok (.slice A L.length c) W := by
 obtain ⟨A, c, rfl⟩ := Kd.S_slice h
 have hle := (Kd.S_reads' h).2.1
 simp only [List.length_append, List.length_map, List.length_singleton] at hle
 refine ⟨A, c, _, rfl, h, fun W => ?_⟩
 have := cut_rows A (withMarks L ++ [([-77], [])]).length c (L.length : Int) (by omega) (by omega) W
 rwa [Int.toNat_natCast] at this
set_option maxHeartbeats 2000000 in
set_option maxRecDepth 10000 in
theorem rows_calls (A0 : Option Addr) (c0 : Nat) (L : LL) (w : World) (h0 : Kd.C kL w A0 L.length L) (hL : L.length ≤ 5864062014634) (hLr : ∀ l ∈ L, l.length ≤ 17592186043904) :
  Calls Tryd.prog 70 #[.slice A0 L.length c0] w fun e w' => ∃ A c, e = .returned (.slice A L.length c) ∧ Kd.S kM 25 w' w.heap.size (fun _ => True) (.slice A (rowsM L).length c) (rowsM L) ∧ Below w.heap.size w w' := by
 have hu := Tryd.underlying22
 have H0 := Aside0.mk h0
 have HLr := Aside0.mk hLr
 have hb1 := C_bound h0
 clear h0 hLr
 go_enter Tryd.func70, Tryd.ntmps70
 go_wp2_with fail
 go_loopg [3, 4] L.length (fun gg v3 v4 wr => ∃ (kk : Nat), kk ≤ L.length ∧ L.length - kk ≤ gg ∧ v4 = .int .i64 kk ∧ Aside0 (Kd.S kM 25 wr w.heap.size (fun _ => True) v3 (withMarks (L.take kk))) ∧ Aside0 (Below w.heap.size w wr))
 case atStart => exact ⟨0, Nat.zero_le _, by omega, rfl, ⟨Kd.S_nil _ _ _ _ _⟩, ⟨Below.refl _ _⟩⟩
 case round =>
  obtain ⟨kk, hkk, hg, rfl, HS, HB⟩ := hrel
  by_cases hlt : kk < L.length
  ·have hltz : (kk : Int) < (L.length : Int) := by omega
   obtain ⟨ad, A5, c5, rfl, hcell', h5, h6⟩ := list_at H0.out kk L[kk] (List.getElem?_eq_getElem hlt)
   have hcell := pw_cell_below HB.out hcell'
   have hx : Aside0 (L[kk].length ≤ 17592186043904) := ⟨HLr.out _ (List.getElem_mem hlt)⟩
   have hsn : Aside0 (withMarks (L.take kk) ++ [(L[kk], [-77, -77])] = withMarks (L.take (kk + 1))) := ⟨by show List.map _ _ ++ _ = List.map _ _; rw [List.take_add_one, List.getElem?_eq_getElem hlt, List.map_append]; rfl⟩
   generalize L[kk] = x at hcell hcell' h5 h6 hx hsn
   have H6 := Aside0.mk (And.intro h5 h6)
   clear h5 h6 hcell'
   go_wp2_with fail
   refine (list_calls A5 c5 x wr (Kd.C_below H6.out.2 HB.out) H6.out.1 hx.out).mono ?_
   rintro e wm ⟨A6, c6, rfl, ho, hb⟩
   have HX := Aside0.mk (And.intro (Kd.R_base ho) (Kd.R_lower (Kd.R_tight rfl ho) HB.out.size))
   have HV := Aside0.mk (Kd.S_lt HS.out)
   have HO := Aside0.mk (Kd.S_old HS.out hb)
   replace HB := Aside0.mk (below_step HB.out hb)
   clear HS ho hb
   go_wp2_with ((with_reducible refine gate_builtin (b := .append) (xs := #[.tmp 17, .tmp 19]) rfl ?_); at_builtin; refine Kd.S_append kM (w0 := w) w.heap.size rfl (.tmp 17) (.tmp 19) 22 25 (.slice none 0 0) 24 rfl Tryd.underlying22 info25 rfl (by decide) (by omega) _ (withMarks (L.take kk)) (x, [-77, -77]) [.slice A6 x.length c6] (fun _ => True) (fun k => some k = (Value.slice A6 (marks x).length c6).ownBlock) rfl rfl ?aP ?aK (fun _ _ => trivial) ?aO ?aB ?aS ?aL ?_; (case aP => exact ⟨A6, c6, rfl, HX.out.2⟩); (case aK => exact fun k hk => ⟨trivial, fun he => by have := HX.out.1 k hk.symm; have := HV.out k he.symm; omega⟩); (case aO => exact Kd.S_mono HO.out (fun k hk => ⟨trivial, fun he => by have := HX.out.1 k he.symm; have := hk.2; omega⟩)); (case aB => exact HB.out); (case aS => exact HB.out.size); (case aL => simp only [List.length_map, List.length_take]; omega); intro vz wz hoz hbz hgz hatz; have HS2 := Aside0.mk hoz; have HB2 := Aside0.mk hbz; clear hoz hbz hgz hatz)
   go_roundg (L.length - (kk + 1))
   case measure => omega
   case rel => exact ⟨kk + 1, by omega, by omega, by go_num, ⟨by rw [← hsn.out]; exact HS2.out⟩, HB2⟩
  ·have hltz : ¬ (kk : Int) < (L.length : Int) := by omega
   obtain rfl : L.length = kk := by omega
   rw [List.take_length] at HS
   have HV := Aside0.mk (Kd.S_lt HS.out)
   go_wp2_with ((with_reducible refine gate_builtin (b := .append) (xs := #[.tmp 21, .tmp 23]) rfl ?_); at_builtin; refine Kd.S_append kM (w0 := w) w.heap.size rfl (.tmp 21) (.tmp 23) 22 25 (.slice none 0 0) 24 rfl Tryd.underlying22 info25 rfl (by decide) (by omega) _ (withMarks L) ([-77], []) [.slice (some ⟨wr.heap.size, 0, none⟩) 1 1] (fun _ => True) (fun k => k = wr.heap.size) rfl (by show Value.slice (some ⟨wr.heap.size + 1, 0, none⟩) 1 1 = _; simp) ?aP ?aK (fun _ _ => trivial) ?aO ?aB ?aS ?aL ?_; (case aP => exact ⟨_, _, rfl, one_mark HB.out.size⟩); (case aK => exact fun k hk => ⟨trivial, fun he => by have := HV.out k he.symm; omega⟩); (case aO => exact Kd.S_mono (Kd.S_old HS.out (below_alloc (Below.refl _ _) _)) (fun k hk => ⟨trivial, fun he => by have := hk.2; omega⟩)); (case aB => exact below_alloc HB.out _); (case aS => exact (by have := HB.out.size; simp; omega)); (case aL => simp only [List.length_map]; omega); intro vz wz hoz hbz hgz hatz; obtain ⟨Az, cz, mz, e1, HO2, hcut⟩ := marked_rows hoz; subst e1; have HS2 := Aside0.mk HO2; have HB2 := Aside0.mk hbz; clear HO2 hoz hbz hgz hatz)
   go_ret
   exact ⟨Az, cz, rfl, by have h := HS2.out; rw [rowsM_length] at h; exact h, HB2.out⟩

set_option maxHeartbeats 2000000 in
set_option maxRecDepth 10000 in
theorem rowsLeft_calls (A : Option Addr) (c : Nat) (L : LL) (w : World) (hr : kM.C w A (rowsM L).length (rowsM L)) (hc : (rowsM L).length ≤ c) (hL : L.length ≤ 5864062014634) (hLr : ∀ l ∈ L, l.length ≤ 17592186043904) :
  Calls Tryd.prog 88 #[.slice A L.length c] w fun e w' => e = .returned (.bool true) ∧ Below w.heap.size w w' := by
 have hu := Tryd.underlying22
 have hm := rowsM_length L
 obtain ⟨ad, Az, cz, rfl, hlast, hcz, hCz⟩ := rowM_at hr L.length ([-77], []) (rowsM_last L)
 obtain ⟨az, rfl, hmark⟩ := int_at hCz 0 (-77) rfl
 have hcut := cut_rows (some ad) L.length c ((L.length : Int) + 1) (by omega) (by omega)
 have e2 : ((L.length : Int) + 1).toNat = L.length + 1 := by omega
 rw [e2] at hcut
 have HR := Aside0.mk hr
 have HLr := Aside0.mk hLr
 have HC := Aside0.mk (And.intro hlast hmark)
 clear hr hLr hm hc e2 hcz hCz hlast hmark
 go_enter Tryd.func88, Tryd.ntmps88
 go_wp2_with fail
 go_loopg [4] L.length (fun gg v4 wr => ∃ (kk : Nat), kk ≤ L.length ∧ L.length - kk ≤ gg ∧ v4 = .int .i64 kk ∧ Aside0 (Below w.heap.size w wr))
 case atStart => exact ⟨0, Nat.zero_le _, by omega, rfl, ⟨Below.refl _ _⟩⟩
 case round =>
  obtain ⟨kk, hkk, hg, rfl, HB⟩ := hrel
  by_cases hlt : kk < L.length
  ·have hltz : (kk : Int) < (L.length : Int) := by omega
   obtain ⟨ad', A5, c5, e, hcell', h5, h6⟩ := rowM_at HR.out kk (L[kk], [-77, -77]) (rowsM_get hlt)
   cases e
   have hcell : wr.cell? (ad.add kk) = some (.slice A5 L[kk].length c5) := pw_cell_below HB.out hcell'
   have hx : Aside0 (L[kk].length ≤ 17592186043904) := ⟨HLr.out _ (List.getElem_mem hlt)⟩
   have H6 : Aside0 ((marks L[kk]).length ≤ c5 ∧ Kd.C kI w A5 (marks L[kk]).length (marks L[kk])) := ⟨⟨h5, h6⟩⟩
   generalize L[kk] = x at hcell hx H6
   clear h5 h6 hcell'
   go_wp2_with fail
   refine (listLeft_calls A5 c5 x wr (Kd.C_below H6.out.2 HB.out) H6.out.1 hx.out).mono ?_
   rintro e wm ⟨rfl, hb⟩
   replace HB := Aside0.mk (below_step HB.out hb)
   clear hb
   go_wp2_with fail
   go_roundg (L.length - (kk + 1))
   case measure => omega
   case rel => exact ⟨kk + 1, by omega, by omega, by go_num, HB⟩
  ·have hltz : ¬ (kk : Int) < (L.length : Int) := by omega
   obtain rfl : L.length = kk := by omega
   have hb2 : (L.length : Int) < ((L.length + 1 : Nat) : Int) := by omega
   have hb3 : L.length < L.length + 1 := by omega
   have hl : wr.cell? (ad.add L.length) = some (.slice (some az) 1 cz) := pw_cell_below HB.out HC.out.1
   have hk : wr.cell? (az.add 0) = some (.int .i64 (-77)) := pw_cell_below HB.out HC.out.2
   have hk' : wr.cell? az = some (.int .i64 (-77)) := by simpa [Addr.add] using hk
   go_wp2_with fail
   repeat (go_quiet (fail); try go_wp2)
   go_ret
   exact ⟨rfl, by repeat (first | exact HB.out | apply pw_below_drewN | apply below_drew1)⟩
end Go.Proofs.YtfonajakaimnoaaDoor.Lend

/- caesuralaw11.lent, marked: positions of their own, with marks behind their lists. -/
namespace Go.Proofs.YtfonajakaimnoaaDoor.C11
open Go.RowKit Go.Proofs.YtfonajakaimnoaaDoorW.PrintWords Go.Proofs.YtfonajakaimnoaaDoorW.PrintLast Go.Proofs.YtfonajakaimnoaaDoorW.PrintMore Go.Proofs.YtfonajakaimnoaaDoor.Lib Lent Go.Proofs.YtfonajakaimnoaaDoor.Fn Go.Proofs.YtfonajakaimnoaaDoor.Lend
set_option linter.unusedVariables false
set_option linter.unusedSimpArgs false
attribute [local go_sem] max2_int min2_int max_two min_two max_three min_three max_four min_four

abbrev rng (a b : Nat) : Nat → Prop := fun k => a ≤ k ∧ k < b
/-- positions that were lent: each list in a part of memory of its own -/
structure LP (base h0 h1 h2 h3 h4 : Nat) (B0 B1 B2 B3 : Option Addr) (d0 d1 d2 d3 : Nat) (L : LL) (F La : List Int) (Fo : LL) (W : World) : Prop where
 p0 : Kd.S kM 25 W base (rng h0 h1) (.slice B0 (rowsM L).length d0) (rowsM L)
 p1 : Kd.R kI 3 W base (rng h1 h2) (.slice B1 (marks F).length d1) (marks F)
 p2 : Kd.R kI 3 W base (rng h2 h3) (.slice B2 (marks La).length d2) (marks La)
 p3 : Kd.S kM 25 W base (rng h3 h4) (.slice B3 (rowsM Fo).length d3) (rowsM Fo)
 o0 : base ≤ h0
 o1 : h0 ≤ h1
 o2 : h1 ≤ h2
 o3 : h2 ≤ h3
 o4 : h3 ≤ h4
 o5 : h4 ≤ W.heap.size
section
variable {base h0 h1 h2 h3 h4 : Nat} {B0 B1 B2 B3 : Option Addr} {d0 d1 d2 d3 : Nat} {L : LL} {F La : List Int} {Fo : LL} {W W' : World}
/-- what turns nothing in its part of memory leaves it as it is -/
theorem LP.move (h : LP base h0 h1 h2 h3 h4 B0 B1 B2 B3 d0 d1 d2 d3 L F La Fo W) (hm : ∀ k, h0 ≤ k → k < h4 → W'.heap[k]? = W.heap[k]?) (hs : W.heap.size ≤ W'.heap.size) : LP base h0 h1 h2 h3 h4 B0 B1 B2 B3 d0 d1 d2 d3 L F La Fo W' := by
 have := h.o1
 have := h.o2
 have := h.o3
 have := h.o4
 exact ⟨Kd.S_move h.p0 (fun k hk => hm k hk.1 (by have := hk.2; omega)), Kd.R_move h.p1 (fun k hk => hm k (by have := hk.1; omega) (by have := hk.2; omega)), Kd.R_move h.p2 (fun k hk => hm k (by have := hk.1; omega) (by have := hk.2; omega)), Kd.S_move h.p3 (fun k hk => hm k (by have := hk.1; omega) hk.2), h.o0, h.o1, h.o2, h.o3, h.o4, Nat.le_trans h.o5 hs⟩
theorem LP.step (h : LP base h0 h1 h2 h3 h4 B0 B1 B2 B3 d0 d1 d2 d3 L F La Fo W) (hb : Below W.heap.size W W') : LP base h0 h1 h2 h3 h4 B0 B1 B2 B3 d0 d1 d2 d3 L F La Fo W' :=
 h.move (fun k _ hk => hb.block k (Nat.lt_of_lt_of_le hk h.o5)) hb.size
/-- the lists as they are read -/
theorem LP.reads (h : LP base h0 h1 h2 h3 h4 B0 B1 B2 B3 d0 d1 d2 d3 L F La Fo W) :
  (Kd.C kL W B0 L.length L ∧ L.length ≤ d0) ∧ (Kd.C kI W B1 F.length F ∧ F.length ≤ d1) ∧ (Kd.C kI W B2 La.length La ∧ La.length ≤ d2) ∧ (Kd.C kL W B3 Fo.length Fo ∧ Fo.length ≤ d3) := by
 obtain ⟨_, l0, c0⟩ := Kd.S_reads' h.p0
 obtain ⟨_, l1, c1⟩ := Kd.R_reads' h.p1
 obtain ⟨_, l2, c2⟩ := Kd.R_reads' h.p2
 obtain ⟨_, l3, c3⟩ := Kd.S_reads' h.p3
 rw [rowsM_length] at l0 l3
 have e1 : (marks F).length = F.length + 2 := by simp [marks]
 have e2 : (marks La).length = La.length + 2 := by simp [marks]
 exact ⟨⟨rows_C c0, by omega⟩, ⟨C_pre c1, by omega⟩, ⟨C_pre c2, by omega⟩, ⟨rows_C c3, by omega⟩⟩
end
end Go.Proofs.YtfonajakaimnoaaDoor.C11

/- caesuralaw11.lent: its walk. -/
namespace Go.Proofs.YtfonajakaimnoaaDoor.C11
open Go.RowKit Go.Proofs.YtfonajakaimnoaaDoorW.PrintWords Go.Proofs.YtfonajakaimnoaaDoorW.PrintLast Go.Proofs.YtfonajakaimnoaaDoorW.PrintMore Go.Proofs.YtfonajakaimnoaaDoor.Lib Lent Go.Proofs.YtfonajakaimnoaaDoor.Fn Go.Proofs.YtfonajakaimnoaaDoor.Lend
set_option linter.unusedVariables false
set_option linter.unusedSimpArgs false
attribute [local go_sem] max2_int min2_int max_two min_two max_three min_three max_four min_four

def lnt.T1 : Bool × List (List Nat × List Nat) := (true, [([], []), ([0], [0]), ([1], [1]), ([], []), ([3], [3]), ([4, 2], [4]), ([], []), ([6], [6]), ([7, 5], [7]), ([], []), ([9], [9]), ([10, 8], [10]), ([], []), ([12], [12]), ([2, 5, 8, 11, 13], [2, 5, 8, 11, 13]), ([14, 11, 0, 1, 2, 3, 4, 5, 6, 7, 8, 9, 10, 11, 12, 13, 14], [14])])
def lnt.B1 : List Nat := [0, 1, 3, 0, 8, 31, 0, 64, 255, 0, 512, 2047, 0, 4096, 16383, 32767]
theorem lnt.tab1 : rtab .any (opsOf Tryd.f20 1) = lnt.T1 := by kernel_rfl
theorem lnt.bits1 : waitsOk lnt.T1.2 lnt.B1 = true := by kernel_rfl

/-- what lent answers -/
def lentPost (L : LL) (F La : List Int) (Fo : LL) (b : Bool) (w : World) : Ending → World → Prop := fun e w' =>
 ∃ (B0 B1 B2 B3 : Option Addr) (d0 d1 d2 d3 h0 h1 h2 h3 h4 : Nat), e = .returned (.agg #[.slice B0 L.length d0, .slice B1 F.length d1, .slice B2 La.length d2, .slice B3 Fo.length d3, .bool b]) ∧ LP w.heap.size h0 h1 h2 h3 h4 B0 B1 B2 B3 d0 d1 d2 d3 L F La Fo w' ∧ Below w.heap.size w w'
set_option maxHeartbeats 4000000 in
set_option maxRecDepth 100000 in
theorem lent_calls (A0 : Option Addr) (c0 : Nat) (L : LL) (A1 : Option Addr) (c1 : Nat) (F : List Int) (A2 : Option Addr) (c2 : Nat) (La : List Int) (A3 : Option Addr) (c3 : Nat) (Fo : LL) (b : Bool) (w : World)
  (h0 : Kd.C kL w A0 L.length L ∧ L.length ≤ c0) (h1 : Kd.C kI w A1 F.length F ∧ F.length ≤ c1) (h2 : Kd.C kI w A2 La.length La ∧ La.length ≤ c2) (h3 : Kd.C kL w A3 Fo.length Fo ∧ Fo.length ≤ c3) (hlen : Fo.length ≤ 5864062014634) (hlen2 : L.length ≤ 5864062014634)
  (h1b : F.length ≤ 17592186043904) (h2b : La.length ≤ 17592186043904) (hLb : ∀ l ∈ L, l.length ≤ 17592186043904) (hFb : ∀ l ∈ Fo, l.length ≤ 17592186043904) :
  Calls Tryd.prog 20 #[.agg #[.slice A0 L.length c0, .slice A1 F.length c1, .slice A2 La.length c2, .slice A3 Fo.length c3, .bool b]] w (lentPost L F La Fo b w) := by
 have hu := Tryd.underlying42
 have H0 := Aside0.mk h0
 have H1 := Aside0.mk h1
 have H2 := Aside0.mk h2
 have H3 := Aside0.mk h3
 have HN := Aside0.mk (And.intro hlen (And.intro hlen2 (And.intro h1b (And.intro h2b (And.intro hLb hFb)))))
 clear h0 h1 h2 h3 hlen hlen2 h1b h2b hLb hFb
 go_enter Tryd.func20, Tryd.ntmps20
 go_upto_region 1 with fail
 have HB : Aside0 (RB w w.heap.size (.slice A0 L.length c0) (.slice A1 F.length c1) (.slice A2 La.length c2) (.slice A3 Fo.length c3) b ((w.alloc (.cells #[.slice A0 L.length c0, .slice A1 F.length c1, .slice A2 La.length c2, .slice A3 Fo.length c3, .bool b] 42)).alloc (.cells #[.slice none 0 0, .slice none 0 0, .slice none 0 0, .slice none 0 0, .bool false] 42))) :=
  ⟨⟨below_alloc (below_alloc (Below.refl w.heap.size w) _) _, (by rw [heap_alloc_old _ _ (by simp)]; exact heap_alloc_new _ _), (by have := heap_alloc_new (w.alloc (.cells #[.slice A0 L.length c0, .slice A1 F.length c1, .slice A2 La.length c2, .slice A3 Fo.length c3, .bool b] 42)) (.cells #[.slice none 0 0, .slice none 0 0, .slice none 0 0, .slice none 0 0, .bool false] 42); simpa using this)⟩⟩
 generalize World.alloc _ _ = w0 at HB ⊢
 replace HB := Aside0.mk (HB.out.step (below_drew (Below.refl _ w0)))
 refine start_ (n := 16) (S := fun w' => w'.cell? ⟨w.heap.size, 0, none⟩ = some (.slice A0 L.length c0) ∧ w'.cell? ⟨w.heap.size, 1, none⟩ = some (.slice A1 F.length c1) ∧ w'.cell? ⟨w.heap.size, 2, none⟩ = some (.slice A2 La.length c2) ∧ w'.cell? ⟨w.heap.size, 3, none⟩ = some (.slice A3 Fo.length c3) ∧ w'.cell? ⟨w.heap.size, 4, none⟩ = some (.bool b)) (ds := [15]) #[false, false, false, false, false, false, false, false, false, false, false, false, false, false, false, false] (by kernel_rfl) rfl rfl HB.out.held (fun hHeld => ?_)
 refine with_tabW lnt.tab1 lnt.bits1 (fun HT_ HW_ => ?_)
 generalize w0.drew = wn at HB hHeld ⊢
 obtain ⟨g0, hg0⟩ : ∃ g, g = wn.heap.size := ⟨_, rfl⟩
 have E0 : Aside0 (w.heap.size + 2 ≤ g0 ∧ g0 ≤ wn.heap.size) := ⟨by have := blk_lt HB.out.res; omega⟩
 have G := Aside0.mk hg0
 clear hg0
 refine pure_ (i := 0) (N := some 3) (v := ?_) (a' := ?_) #[true, false, false, false, false, false, false, false, false, false, false, false, false, false, false, false] rfl rfl (any_of HT_.out (by kernel_rfl)) (fun _ _ _ h => h) (Or.inl ⟨by rfl, ?_⟩) ?_ ?_
 rotate_left
 ·intro w'
  go_simp
  with_reducible rfl
 rotate_left
 ·simp only [Act.put, List.setIfInBounds_toArray, List.set_cons_zero, List.set_cons_succ, i64_w, i32_w]
  rfl
 refine take_ (i := 1) (N := some 4) (v := ?_) (a' := ?_) #[true, true, false, false, false, false, false, false, false, false, false, false, false, false, false, false] rfl rfl (take_ofW HT_.out HW_.out (by kernel_rfl)) (fun _ _ _ h => h) (Or.inl ⟨by rfl, ?_⟩) hHeld ?_ ?_
 rotate_left
 ·rintro w' ⟨s0, s1, s2, s3, s4⟩
  go_simp
  with_reducible rfl
 rotate_left
 ·simp only [Act.put, List.setIfInBounds_toArray, List.set_cons_zero, List.set_cons_succ, i64_w, i32_w]
  rfl
 refine pure_ (i := 3) (N := some 6) (v := ?_) (a' := ?_) #[true, true, false, true, false, false, false, false, false, false, false, false, false, false, false, false] rfl rfl (any_of HT_.out (by kernel_rfl)) (fun _ _ _ h => h) (Or.inl ⟨by rfl, ?_⟩) ?_ ?_
 rotate_left
 ·intro w'
  go_simp
  with_reducible rfl
 rotate_left
 ·simp only [Act.put, List.setIfInBounds_toArray, List.set_cons_zero, List.set_cons_succ, i64_w, i32_w]
  rfl
 refine take_ (i := 4) (N := some 7) (v := ?_) (a' := ?_) #[true, true, false, true, true, false, false, false, false, false, false, false, false, false, false, false] rfl rfl (take_ofW HT_.out HW_.out (by kernel_rfl)) (fun _ _ _ h => h) (Or.inl ⟨by rfl, ?_⟩) hHeld ?_ ?_
 rotate_left
 ·rintro w' ⟨s0, s1, s2, s3, s4⟩
  go_simp
  with_reducible rfl
 rotate_left
 ·simp only [Act.put, List.setIfInBounds_toArray, List.set_cons_zero, List.set_cons_succ, i64_w, i32_w]
  rfl
 refine pure_ (i := 6) (N := some 9) (v := ?_) (a' := ?_) #[true, true, false, true, true, false, true, false, false, false, false, false, false, false, false, false] rfl rfl (any_of HT_.out (by kernel_rfl)) (fun _ _ _ h => h) (Or.inl ⟨by rfl, ?_⟩) ?_ ?_
 rotate_left
 ·intro w'
  go_simp
  with_reducible rfl
 rotate_left
 ·simp only [Act.put, List.setIfInBounds_toArray, List.set_cons_zero, List.set_cons_succ, i64_w, i32_w]
  rfl
 refine take_ (i := 7) (N := some 10) (v := ?_) (a' := ?_) #[true, true, false, true, true, false, true, true, false, false, false, false, false, false, false, false] rfl rfl (take_ofW HT_.out HW_.out (by kernel_rfl)) (fun _ _ _ h => h) (Or.inl ⟨by rfl, ?_⟩) hHeld ?_ ?_
 rotate_left
 ·rintro w' ⟨s0, s1, s2, s3, s4⟩
  go_simp
  with_reducible rfl
 rotate_left
 ·simp only [Act.put, List.setIfInBounds_toArray, List.set_cons_zero, List.set_cons_succ, i64_w, i32_w]
  rfl
 refine pure_ (i := 9) (N := some 12) (v := ?_) (a' := ?_) #[true, true, false, true, true, false, true, true, false, true, false, false, false, false, false, false] rfl rfl (any_of HT_.out (by kernel_rfl)) (fun _ _ _ h => h) (Or.inl ⟨by rfl, ?_⟩) ?_ ?_
 rotate_left
 ·intro w'
  go_simp
  with_reducible rfl
 rotate_left
 ·simp only [Act.put, List.setIfInBounds_toArray, List.set_cons_zero, List.set_cons_succ, i64_w, i32_w]
  rfl
 refine take_ (i := 10) (N := some 13) (v := ?_) (a' := ?_) #[true, true, false, true, true, false, true, true, false, true, true, false, false, false, false, false] rfl rfl (take_ofW HT_.out HW_.out (by kernel_rfl)) (fun _ _ _ h => h) (Or.inl ⟨by rfl, ?_⟩) hHeld ?_ ?_
 rotate_left
 ·rintro w' ⟨s0, s1, s2, s3, s4⟩
  go_simp
  with_reducible rfl
 rotate_left
 ·simp only [Act.put, List.setIfInBounds_toArray, List.set_cons_zero, List.set_cons_succ, i64_w, i32_w]
  rfl
 refine pure_ (i := 12) (N := some 15) (v := ?_) (a' := ?_) #[true, true, false, true, true, false, true, true, false, true, true, false, true, false, false, false] rfl rfl (any_of HT_.out (by kernel_rfl)) (fun _ _ _ h => h) (Or.inl ⟨by rfl, ?_⟩) ?_ ?_
 rotate_left
 ·intro w'
  go_simp
  with_reducible rfl
 rotate_left
 ·simp only [Act.put, List.setIfInBounds_toArray, List.set_cons_zero, List.set_cons_succ, i64_w, i32_w]
  rfl
 refine take_ (i := 13) (N := some 16) (v := ?_) (a' := ?_) #[true, true, false, true, true, false, true, true, false, true, true, false, true, true, false, false] rfl rfl (take_ofW HT_.out HW_.out (by kernel_rfl)) (fun _ _ _ h => h) (Or.inl ⟨by rfl, ?_⟩) hHeld ?_ ?_
 rotate_left
 ·rintro w' ⟨s0, s1, s2, s3, s4⟩
  go_simp
  with_reducible rfl
 rotate_left
 ·simp only [Act.put, List.setIfInBounds_toArray, List.set_cons_zero, List.set_cons_succ, i64_w, i32_w]
  rfl
 refine one_ (i := 2) (N := some 5) #[true, true, true, true, true, false, true, true, false, true, true, false, true, true, false, false] rfl rfl (one_of HT_.out (by kernel_rfl)) (by decide) (fun K hK => ?_)
 refine goes_ Tryd.func70 (by kernel_rfl) rfl #[.slice A0 L.length c0] (by rfl) rfl rfl (by (try simp only [List.map_toArray, List.map_cons, List.map_nil]); first | done | rfl) ?_
 refine (rows_calls A0 c0 L _ (Kd.C_below H0.out.1 HB.out.below) HN.out.2.1 HN.out.2.2.2.2.1).mono ?_
 rintro e wm ⟨Z0, e0, rfl, ho, hb⟩
 refine ⟨_, rfl, ?_⟩
 obtain ⟨g1, hg1⟩ : ∃ g, g = wm.heap.size := ⟨_, rfl⟩
 have K0 := Aside0.mk (Kd.S_mono (Kd.S_lower (Kd.S_bound ho) HB.out.below.size) (ok' := rng g0 g1) (fun k hk => ⟨by rw [G.out]; exact hk.2.1, by rw [hg1]; exact hk.2.2.1⟩))
 
 have E1 : Aside0 (w.heap.size + 2 ≤ g0 ∧ g0 ≤ g1 ∧ g1 ≤ wm.heap.size) := ⟨by have := E0.out; have := hb.size; have := G.out; omega⟩
 clear G ho E0
 have G := Aside0.mk hg1
 clear hg1
 replace HB := Aside0.mk (HB.out.step hb)
 obtain ⟨wn, rfl⟩ : ∃ wn, wn = wm := ⟨_, rfl⟩
 refine hK.out _ _ HB.out.held (fun hHeld => ?_)
 clear hK K hb
 refine norm_ (a' := ?_) ?_ ?_
 rotate_left
 ·show Act.put _ (some 5) _ = _
  simp only [Act.put, List.setIfInBounds_toArray, List.set_cons_zero, List.set_cons_succ, i64_w, i32_w]
  rfl
 refine one_ (i := 5) (N := some 8) #[true, true, true, true, true, true, true, true, false, true, true, false, true, true, false, false] rfl rfl (one_of HT_.out (by kernel_rfl)) (by decide) (fun K hK => ?_)
 refine goes_ Tryd.func21 (by kernel_rfl) rfl #[.slice A1 F.length c1] (by rfl) rfl rfl (by (try simp only [List.map_toArray, List.map_cons, List.map_nil]); first | done | rfl) ?_
 refine (list_calls A1 c1 F _ (Kd.C_below H1.out.1 HB.out.below) H1.out.2 HN.out.2.2.1).mono ?_
 rintro e wm ⟨Z1, e1, rfl, ho, hb⟩
 refine ⟨_, rfl, ?_⟩
 obtain ⟨g2, hg2⟩ : ∃ g, g = wm.heap.size := ⟨_, rfl⟩
 have K1 := Aside0.mk (Kd.R_mono (Kd.R_lower (Kd.R_bound ho) HB.out.below.size) (ok' := rng g1 g2) (fun k hk => ⟨by rw [G.out]; exact hk.2.1, by rw [hg2]; exact hk.2.2.1⟩))
 replace K0 := Aside0.mk (Kd.S_below K0.out hb)
 have E2 : Aside0 (w.heap.size + 2 ≤ g0 ∧ g0 ≤ g1 ∧ g1 ≤ g2 ∧ g2 ≤ wm.heap.size) := ⟨by have := E1.out; have := hb.size; have := G.out; omega⟩
 clear G ho E1
 have G := Aside0.mk hg2
 clear hg2
 replace HB := Aside0.mk (HB.out.step hb)
 obtain ⟨wn, rfl⟩ : ∃ wn, wn = wm := ⟨_, rfl⟩
 refine hK.out _ _ HB.out.held (fun hHeld => ?_)
 clear hK K hb
 refine norm_ (a' := ?_) ?_ ?_
 rotate_left
 ·show Act.put _ (some 8) _ = _
  simp only [Act.put, List.setIfInBounds_toArray, List.set_cons_zero, List.set_cons_succ, i64_w, i32_w]
  rfl
 refine one_ (i := 8) (N := some 11) #[true, true, true, true, true, true, true, true, true, true, true, false, true, true, false, false] rfl rfl (one_of HT_.out (by kernel_rfl)) (by decide) (fun K hK => ?_)
 refine goes_ Tryd.func21 (by kernel_rfl) rfl #[.slice A2 La.length c2] (by rfl) rfl rfl (by (try simp only [List.map_toArray, List.map_cons, List.map_nil]); first | done | rfl) ?_
 refine (list_calls A2 c2 La _ (Kd.C_below H2.out.1 HB.out.below) H2.out.2 HN.out.2.2.2.1).mono ?_
 rintro e wm ⟨Z2, e2, rfl, ho, hb⟩
 refine ⟨_, rfl, ?_⟩
 obtain ⟨g3, hg3⟩ : ∃ g, g = wm.heap.size := ⟨_, rfl⟩
 have K2 := Aside0.mk (Kd.R_mono (Kd.R_lower (Kd.R_bound ho) HB.out.below.size) (ok' := rng g2 g3) (fun k hk => ⟨by rw [G.out]; exact hk.2.1, by rw [hg3]; exact hk.2.2.1⟩))
 replace K0 := Aside0.mk (Kd.S_below K0.out hb)
 replace K1 := Aside0.mk (Kd.R_below K1.out hb)
 have E3 : Aside0 (w.heap.size + 2 ≤ g0 ∧ g0 ≤ g1 ∧ g1 ≤ g2 ∧ g2 ≤ g3 ∧ g3 ≤ wm.heap.size) := ⟨by have := E2.out; have := hb.size; have := G.out; omega⟩
 clear G ho E2
 have G := Aside0.mk hg3
 clear hg3
 replace HB := Aside0.mk (HB.out.step hb)
 obtain ⟨wn, rfl⟩ : ∃ wn, wn = wm := ⟨_, rfl⟩
 refine hK.out _ _ HB.out.held (fun hHeld => ?_)
 clear hK K hb
 refine norm_ (a' := ?_) ?_ ?_
 rotate_left
 ·show Act.put _ (some 11) _ = _
  simp only [Act.put, List.setIfInBounds_toArray, List.set_cons_zero, List.set_cons_succ, i64_w, i32_w]
  rfl
 refine one_ (i := 11) (N := some 14) #[true, true, true, true, true, true, true, true, true, true, true, true, true, true, false, false] rfl rfl (one_of HT_.out (by kernel_rfl)) (by decide) (fun K hK => ?_)
 refine goes_ Tryd.func70 (by kernel_rfl) rfl #[.slice A3 Fo.length c3] (by rfl) rfl rfl (by (try simp only [List.map_toArray, List.map_cons, List.map_nil]); first | done | rfl) ?_
 refine (rows_calls A3 c3 Fo _ (Kd.C_below H3.out.1 HB.out.below) HN.out.1 HN.out.2.2.2.2.2).mono ?_
 rintro e wm ⟨Z3, e3, rfl, ho, hb⟩
 refine ⟨_, rfl, ?_⟩
 obtain ⟨g4, hg4⟩ : ∃ g, g = wm.heap.size := ⟨_, rfl⟩
 have K3 := Aside0.mk (Kd.S_mono (Kd.S_lower (Kd.S_bound ho) HB.out.below.size) (ok' := rng g3 g4) (fun k hk => ⟨by rw [G.out]; exact hk.2.1, by rw [hg4]; exact hk.2.2.1⟩))
 replace K0 := Aside0.mk (Kd.S_below K0.out hb)
 replace K1 := Aside0.mk (Kd.R_below K1.out hb)
 replace K2 := Aside0.mk (Kd.R_below K2.out hb)
 have E4 : Aside0 (w.heap.size + 2 ≤ g0 ∧ g0 ≤ g1 ∧ g1 ≤ g2 ∧ g2 ≤ g3 ∧ g3 ≤ g4 ∧ g4 ≤ wm.heap.size) := ⟨by have := E3.out; have := hb.size; have := G.out; omega⟩
 clear G ho E3
 have G := Aside0.mk hg4
 clear hg4
 replace HB := Aside0.mk (HB.out.step hb)
 obtain ⟨wn, rfl⟩ : ∃ wn, wn = wm := ⟨_, rfl⟩
 refine hK.out _ _ HB.out.held (fun hHeld => ?_)
 clear hK K hb
 refine norm_ (a' := ?_) ?_ ?_
 rotate_left
 ·show Act.put _ (some 14) _ = _
  simp only [Act.put, List.setIfInBounds_toArray, List.set_cons_zero, List.set_cons_succ, i64_w, i32_w]
  rfl
 refine pure_ (i := 14) (N := some 17) (v := ?_) (a' := ?_) #[true, true, true, true, true, true, true, true, true, true, true, true, true, true, true, false] rfl rfl (any_of HT_.out (by kernel_rfl)) (fun _ _ _ h => h) (Or.inl ⟨by rfl, ?_⟩) ?_ ?_
 rotate_left
 ·intro w'
  go_simp
  with_reducible rfl
 rotate_left
 ·simp only [Act.put, List.setIfInBounds_toArray, List.set_cons_zero, List.set_cons_succ, i64_w, i32_w]
  rfl
 refine last_ (i := 15) (N := none) #[true, true, true, true, true, true, true, true, true, true, true, true, true, true, true, true] rfl rfl (one_of HT_.out (by kernel_rfl)) (by decide) (fun K hK => ?_)
 have z0 : wn.cell? ⟨w.heap.size + 1, 0, none⟩ = some (.slice none 0 0) := (blk_cell HB.out.res 0).trans rfl
 have z1 : wn.cell? ⟨w.heap.size + 1, 1, none⟩ = some (.slice none 0 0) := (blk_cell HB.out.res 1).trans rfl
 have z2 : wn.cell? ⟨w.heap.size + 1, 2, none⟩ = some (.slice none 0 0) := (blk_cell HB.out.res 2).trans rfl
 have z3 : wn.cell? ⟨w.heap.size + 1, 3, none⟩ = some (.slice none 0 0) := (blk_cell HB.out.res 3).trans rfl
 have z4 : wn.cell? ⟨w.heap.size + 1, 4, none⟩ = some (.bool false) := (blk_cell HB.out.res 4).trans rfl
 have y0 := blk_frozen HB.out.res 0
 have y1 := blk_frozen HB.out.res 1
 have y2 := blk_frozen HB.out.res 2
 have y3 := blk_frozen HB.out.res 3
 have y4 := blk_frozen HB.out.res 4
 refine skip_ (w1 := ?_) (by rfl) rfl ?_ ?_
 rotate_left
 ·go_simp
  rfl
 refine hK.out _ _ ?_
 clear hK K
 refine done_ (done_of HT_.out (by kernel_rfl)) ?_
 go_wp2_with fail
 refine bodyPost_ret (results_cell_row rfl _ _ (w.heap.size + 1) 42 #[.slice Z0 L.length e0, .slice Z1 F.length e1, .slice Z2 La.length e2, .slice Z3 Fo.length e3, .bool b] (0, 0) _ rfl (blk_put (blk_put (blk_put (blk_put (blk_put HB.out.res 0 _ rfl) 1 _ rfl) 2 _ rfl) 3 _ rfl) 4 _ rfl) Tryd.underlying42 rfl (by kernel_rfl)) rfl ?_
 refine ⟨Z0, Z1, Z2, Z3, e0, e1, e2, e3, g0, g1, g2, g3, g4, rfl, ?_, (((((HB.out.below.setCell (Nat.le_succ _) _).setCell (Nat.le_succ _) _).setCell (Nat.le_succ _) _).setCell (Nat.le_succ _) _).setCell (Nat.le_succ _) _)⟩
 have hE := E4.out
 have hLP : LP w.heap.size g0 g1 g2 g3 g4 Z0 Z1 Z2 Z3 e0 e1 e2 e3 L F La Fo wn := ⟨K0.out, K1.out, K2.out, K3.out, by omega, by omega, by omega, by omega, by omega, by omega⟩
 refine hLP.move (fun k hk1 hk2 => ?_) (by simp [World.setCell])
 have hne : k ≠ w.heap.size + 1 := by omega
 rw [Below.heap_setCell _ ⟨w.heap.size + 1, 4, none⟩ _ k hne, Below.heap_setCell _ ⟨w.heap.size + 1, 3, none⟩ _ k hne, Below.heap_setCell _ ⟨w.heap.size + 1, 2, none⟩ _ k hne, Below.heap_setCell _ ⟨w.heap.size + 1, 1, none⟩ _ k hne, Below.heap_setCell _ ⟨w.heap.size + 1, 0, none⟩ _ k hne]
end Go.Proofs.YtfonajakaimnoaaDoor.C11

/- caesuralaw11.marked: the marks behind the lists stand. -/
namespace Go.Proofs.YtfonajakaimnoaaDoor.C11
open Go.RowKit Go.Proofs.YtfonajakaimnoaaDoorW.PrintWords Go.Proofs.YtfonajakaimnoaaDoorW.PrintLast Go.Proofs.YtfonajakaimnoaaDoorW.PrintMore Go.Proofs.YtfonajakaimnoaaDoor.Lib Lent Go.Proofs.YtfonajakaimnoaaDoor.Fn Go.Proofs.YtfonajakaimnoaaDoor.Lend
set_option linter.unusedVariables false
set_option linter.unusedSimpArgs false
attribute [local go_sem] max2_int min2_int max_two min_two max_three min_three max_four min_four

set_option maxHeartbeats 2000000 in
set_option maxRecDepth 100000 in
theorem marked_calls {base h0 h1 h2 h3 h4 : Nat} {B0 B1 B2 B3 : Option Addr} {d0 d1 d2 d3 : Nat} {L : LL} {F La : List Int} {Fo : LL} {w : World} (b : Bool) (h : LP base h0 h1 h2 h3 h4 B0 B1 B2 B3 d0 d1 d2 d3 L F La Fo w)
  (hlen : Fo.length ≤ 5864062014634) (hlen2 : L.length ≤ 5864062014634) (h1b : F.length ≤ 17592186043904) (h2b : La.length ≤ 17592186043904) (hLb : ∀ l ∈ L, l.length ≤ 17592186043904) (hFb : ∀ l ∈ Fo, l.length ≤ 17592186043904) :
  Calls Tryd.prog 27 #[.agg #[.slice B0 L.length d0, .slice B1 F.length d1, .slice B2 La.length d2, .slice B3 Fo.length d3, .bool b]] w fun e w' => e = .returned (.bool true) ∧ Below w.heap.size w w' := by
 have hu := Tryd.underlying42
 have HN := Aside0.mk (And.intro hlen (And.intro hlen2 (And.intro h1b (And.intro h2b (And.intro hLb hFb)))))
 have HL := Aside0.mk h
 clear h hlen hlen2 h1b h2b hLb hFb
 go_enter Tryd.func27, Tryd.ntmps27
 go_wp2_with fail
 have HB := Aside0.mk (below_alloc (Below.refl w.heap.size w) (.cells #[.slice B0 L.length d0, .slice B1 F.length d1, .slice B2 La.length d2, .slice B3 Fo.length d3, .bool b] 42))
 have HX := Aside0.mk (heap_alloc_new w (.cells #[.slice B0 L.length d0, .slice B1 F.length d1, .slice B2 La.length d2, .slice B3 Fo.length d3, .bool b] 42))
 obtain ⟨_, l0, c0⟩ := Kd.S_reads' HL.out.p0
 refine (rowsLeft_calls B0 d0 L _ (Kd.C_below c0 HB.out) l0 HN.out.2.1 HN.out.2.2.2.2.1).mono ?_
 rintro e w1 ⟨rfl, hb⟩
 replace HX := Aside0.mk ((hb.block _ (blk_lt HX.out)).trans HX.out)
 replace HB := Aside0.mk (below_step HB.out hb)
 clear hb l0 c0
 have f3 : w1.cell? ⟨w.heap.size, 3, none⟩ = some (.slice B3 Fo.length d3) := (blk_cell HX.out 3).trans rfl
 go_wp2_with fail
 obtain ⟨_, l0, c0⟩ := Kd.S_reads' HL.out.p3
 refine (rowsLeft_calls B3 d3 Fo _ (Kd.C_below c0 HB.out) l0 HN.out.1 HN.out.2.2.2.2.2).mono ?_
 rintro e w2 ⟨rfl, hb⟩
 replace HX := Aside0.mk ((hb.block _ (blk_lt HX.out)).trans HX.out)
 replace HB := Aside0.mk (below_step HB.out hb)
 clear hb l0 c0 f3
 have f1 : w2.cell? ⟨w.heap.size, 1, none⟩ = some (.slice B1 F.length d1) := (blk_cell HX.out 1).trans rfl
 go_wp2_with fail
 obtain ⟨_, l0, c0⟩ := Kd.R_reads' HL.out.p1
 refine (listLeft_calls B1 d1 F _ (Kd.C_below c0 HB.out) l0 HN.out.2.2.1).mono ?_
 rintro e w3 ⟨rfl, hb⟩
 replace HX := Aside0.mk ((hb.block _ (blk_lt HX.out)).trans HX.out)
 replace HB := Aside0.mk (below_step HB.out hb)
 clear hb l0 c0 f1
 have f2 : w3.cell? ⟨w.heap.size, 2, none⟩ = some (.slice B2 La.length d2) := (blk_cell HX.out 2).trans rfl
 go_wp2_with fail
 obtain ⟨_, l0, c0⟩ := Kd.R_reads' HL.out.p2
 refine (listLeft_calls B2 d2 La _ (Kd.C_below c0 HB.out) l0 HN.out.2.2.2.1).mono ?_
 rintro e w4 ⟨rfl, hb⟩
 replace HB := Aside0.mk (below_step HB.out hb)
 clear hb l0 c0 f2
 go_wp2_with fail
 go_ret
 exact ⟨rfl, HB.out⟩
end Go.Proofs.YtfonajakaimnoaaDoor.C11

namespace Go.Proofs.YtfonajakaimnoaaDoor.Lib
open Go.RowKit Go.Proofs.YtfonajakaimnoaaDoorW.PrintWords Go.Proofs.YtfonajakaimnoaaDoorW.PrintLast Go.Proofs.YtfonajakaimnoaaDoorW.PrintMore
attribute [local go_sem] max2_int min2_int max_two min_two max_three min_three max_four min_four   -- for this text's walks alone
set_option linter.unusedVariables false
set_option linter.unusedSimpArgs false

/-! ### caesurakit_Pick: function 31 -/
def caesurakit_Pick.f (a0 : Int) (a1 : Int) : Option (Int) := if a1 < 1 then (some 0) else (if a1 = 0 then (none) else (if (Int.tmod a0 a1) < 0 then (some (wrap64 ((Int.tmod a0 a1) + a1))) else (some (Int.tmod a0 a1))))
set_option maxHeartbeats 8000000 in
set_option maxRecDepth 100000 in
theorem caesurakit_Pick.calls (a0 : Int) (a1 : Int) (r : Int) (w : World) (h : caesurakit_Pick.f a0 a1 = some r) :
  Calls Tryd.prog 31 #[.int .i64 a0, .int .i64 a1] w fun e w' => e = .returned (.int .i64 r) ∧ Drawn0 w w' := by
 have H : (if a1 < 1 then (some 0) else (if a1 = 0 then (none) else (if (Int.tmod a0 a1) < 0 then (some (wrap64 ((Int.tmod a0 a1) + a1))) else (some (Int.tmod a0 a1))))) = some r := h
 clear h
 by_cases c3 : a1 < 1
 ·rw [if_pos c3] at H
  have c3b0 : decide (a1 < 1) = true := decide_eq_true c3
  clear c3
  obtain rfl := Option.some.inj H
  go_enter Tryd.func31, Tryd.ntmps31
  go_wp2
  go_ret
  exact ⟨by first | rfl | (simp; done) | (simp [*]; done), by repeat (first | exact Drawn0.refl _ | apply Drawn0.step)⟩
 ·rw [if_neg c3] at H
  have c3b0 : decide (a1 < 1) = false := decide_eq_false c3
  clear c3
  by_cases c4 : a1 = 0
  ·rw [if_pos c4] at H
   exact absurd H (by simp)
  ·rw [if_neg c4] at H
   have c4b0 : (a1 == 0) = false := beq_eq_false_iff_ne.mpr c4
   have c4b1 : (a1 != 0) = true := bne_iff_ne.mpr c4
   by_cases c5 : (Int.tmod a0 a1) < 0
   ·rw [if_pos c5] at H
    have c5b0 : decide ((Int.tmod a0 a1) < 0) = true := decide_eq_true c5
    clear c5
    obtain rfl := Option.some.inj H
    go_enter Tryd.func31, Tryd.ntmps31
    go_wp2
    go_ret
    exact ⟨by first | rfl | (simp; done) | (simp [*]; done), by repeat (first | exact Drawn0.refl _ | apply Drawn0.step)⟩
   ·rw [if_neg c5] at H
    have c5b0 : decide ((Int.tmod a0 a1) < 0) = false := decide_eq_false c5
    clear c5
    obtain rfl := Option.some.inj H
    go_enter Tryd.func31, Tryd.ntmps31
    go_wp2
    go_ret
    exact ⟨by first | rfl | (simp; done) | (simp [*]; done), by repeat (first | exact Drawn0.refl _ | apply Drawn0.step)⟩

end Go.Proofs.YtfonajakaimnoaaDoor.Lib

/- caesuralaw11.over: what is written, and what stays. -/
namespace Go.Proofs.YtfonajakaimnoaaDoor.C11
open Go.RowKit Go.Proofs.YtfonajakaimnoaaDoorW.PrintWords Go.Proofs.YtfonajakaimnoaaDoorW.PrintLast Go.Proofs.YtfonajakaimnoaaDoorW.PrintMore Go.Proofs.YtfonajakaimnoaaDoor.Lib Lent Go.Proofs.YtfonajakaimnoaaDoor.Fn Go.Proofs.YtfonajakaimnoaaDoor.Lend
set_option linter.unusedVariables false
set_option linter.unusedSimpArgs false

def pk2 (x : Int) : Int := (caesurakit_Pick.f x 2).getD 0
theorem pk2_eq (x : Int) : caesurakit_Pick.f x 2 = some (pk2 x) := by
 unfold pk2 caesurakit_Pick.f
 rw [if_neg (by decide), if_neg (by decide)]
 split <;> rfl
theorem pk2_in (x : Int) : 0 ≤ pk2 x ∧ pk2 x ≤ 1 := by
 unfold pk2 caesurakit_Pick.f
 rw [if_neg (by decide), if_neg (by decide)]
 have h1 := Int.tmod_lt_of_pos x (show (0 : Int) < 2 by decide)
 have h2 := Int.lt_tmod_of_pos x (show (0 : Int) < 2 by decide)
 split
 ·show 0 ≤ wrap64 _ ∧ wrap64 _ ≤ 1
  unfold wrap64
  omega
 ·show 0 ≤ x.tmod 2 ∧ x.tmod 2 ≤ (1 : Int)
  omega
/-- the first number is another one -/
def flip : List Int → List Int
 | [] => []
 | x :: r => (1 - pk2 x) :: r
def overL : LL → LL
 | [] => []
 | l :: r => flip l :: r
theorem flip_length (l : List Int) : (flip l).length = l.length := by cases l <;> rfl
theorem overL_length (L : LL) : (overL L).length = L.length := by cases L <;> rfl
theorem overL_bound {L : LL} {b : Nat} (h : ∀ l ∈ L, l.length ≤ b) : ∀ l ∈ overL L, l.length ≤ b := by
 cases L with
 | nil => exact h
 | cons x r =>
  intro l hl
  rcases List.mem_cons.1 hl with rfl | hl
  ·rw [flip_length]; exact h x List.mem_cons_self
  ·exact h l (List.mem_cons_of_mem _ hl)
theorem rowsM_over (l : List Int) (r : LL) : (rowsM (l :: r)).set 0 (flip l, [-77, -77]) = rowsM (overL (l :: r)) := rfl

/-- a list that is written: where it lies, what it holds, what stands behind it, the blocks that are its own -/
structure Tg where
 A : Option Addr
 c : Nat
 xs : List Int
 m : List Int
 ok : Nat → Prop
def Tg.hd (t : Tg) : Option Addr × Nat × Nat := (t.A, t.xs.length, t.c)
def Tg.flip (t : Tg) : Tg := { t with xs := C11.flip t.xs }
theorem Tg.hd_flip (t : Tg) : t.flip.hd = t.hd := by simp [Tg.hd, Tg.flip, flip_length]
/-- the cells of slices, as they stand -/
abbrev kT : Kd (Option Addr × Nat × Nat) := Kd.scalar (fun t => .slice t.1 t.2.1 t.2.2) (fun _ => rfl)
theorem List.set_getElem?_self' {α : Type} {l : List α} {i : Nat} {x : α} (h : l[i]? = some x) : l.set i x = l := by
 obtain ⟨hi, rfl⟩ := List.getElem?_eq_some_iff.1 h
 exact List.set_getElem_self hi
structure Ovr (w : World) (lo hi base : Nat) (v2 : Value) (T : List Tg) (W : World) : Prop where
 row : Kd.R kT 25 W w.heap.size (fun _ => True) v2 (T.map Tg.hd)
 fam : ∀ (i : Nat) t, T[i]? = some t → Kd.R kI 3 W base t.ok (.slice t.A (t.xs ++ t.m).length t.c) (t.xs ++ t.m)
 apart : ∀ (i j : Nat) s t, i ≠ j → T[i]? = some s → T[j]? = some t → ∀ k, s.ok k → ¬ t.ok k
 inn : ∀ (i : Nat) t, T[i]? = some t → ∀ k, t.ok k → lo ≤ k ∧ k < hi
 below : Below lo w W
 keep : ∀ k, k < w.heap.size → (∀ (i : Nat) t, T[i]? = some t → ¬ t.ok k) → W.heap[k]? = w.heap[k]?
 hiw : hi ≤ w.heap.size
 low : lo ≤ hi
section
variable {w : World} {lo hi base : Nat} {v2 : Value} {T : List Tg} {W W' : World}
theorem Ovr.step (h : Ovr w lo hi base v2 T W) (hb : Below W.heap.size W W') : Ovr w lo hi base v2 T W' := by
 have h1 := h.below.size
 have h2 := h.hiw
 have h3 := h.low
 exact ⟨Kd.R_below h.row hb, fun i t hi => Kd.R_below (h.fam i t hi) hb, h.apart, h.inn, h.below.trans (hb.mono (by omega)), fun k hk hn => (hb.block k (by omega)).trans (h.keep k hk hn), h.hiw, h.low⟩
/-- where an element of the row of lists lies -/
theorem Ovr.slot (h : Ovr w lo hi base v2 T W) {i : Nat} {t : Tg} (ht : T[i]? = some t) : ∃ bl cap, v2 = .slice (some ⟨bl, 0, none⟩) T.length cap ∧ w.heap.size ≤ bl ∧ W.cell? ⟨bl, i, none⟩ = some (.slice t.A t.xs.length t.c) := by
 have hil := (List.getElem?_eq_some_iff.1 ht).1
 obtain ⟨bl, cap, e, hb, _⟩ := Kd.R_form h.row (by rw [List.length_map]; omega)
 have hr := h.row
 rw [e] at hr
 have hc := (Kd.R_cell (d := (none, 0, 0)) hr (i : Int) (by omega) (by rw [List.length_map]; omega)).1
 rw [List.length_map] at e
 refine ⟨bl, cap, e, hb, ?_⟩
 rw [show ((i : Int)).toNat = i from rfl] at hc
 rw [hc]
 have : rdOf ((none, 0, 0) : Option Addr × Nat × Nat) (T.map Tg.hd) (i : Int) = t.hd := by
  unfold rdOf
  rw [show ((i : Int)).toNat = i from rfl, List.getD_eq_getElem?_getD, List.getElem?_map, ht]
  rfl
 rw [this]
 rfl
/-- its first number -/
theorem Ovr.at (h : Ovr w lo hi base v2 T W) {i : Nat} {t : Tg} {x : Int} {r : List Int} (ht : T[i]? = some t) (hx : t.xs = x :: r) : ∃ g, t.A = some ⟨g, 0, none⟩ ∧ lo ≤ g ∧ g < hi ∧ t.ok g ∧ W.cell? ⟨g, 0, none⟩ = some (.int .i64 x) ∧ W.frozen? ⟨g, 0, none⟩ = false := by
 have hr := h.fam i t ht
 have hpos : 0 < (t.xs ++ t.m).length := by rw [hx]; simp
 obtain ⟨g, cap, e, _, _, cells, hcells⟩ := Kd.R_form hr hpos
 have hA : t.A = some ⟨g, 0, none⟩ := by
  injection e
 have hok : t.ok g := hr.1 g (by rw [hA]; simp [Value.ownBlock])
 have hin := h.inn i t ht g hok
 rw [hA] at hr
 have hc := Kd.R_cell (d := 0) hr (0 : Int) (by omega) (by omega)
 refine ⟨g, hA, hin.1, hin.2, hok, ?_, hc.2⟩
 have e2 : rdOf 0 (t.xs ++ t.m) (0 : Int) = x := by rw [hx]; rfl
 have := hc.1
 rw [e2] at this
 exact this
/-- the store -/
theorem Ovr.put (h : Ovr w lo hi base v2 T W) {i : Nat} {t : Tg} {x : Int} {r : List Int} (ht : T[i]? = some t) (hx : t.xs = x :: r) {g : Nat} (hA : t.A = some ⟨g, 0, none⟩) (v : Int) (hv : v = 1 - pk2 x) :
  Ovr w lo hi base v2 (T.set i t.flip) (W.setCell ⟨g, 0, none⟩ (.int .i64 v)) := by
 have hil := (List.getElem?_eq_some_iff.1 ht).1
 have hr := h.fam i t ht
 have hok : t.ok g := hr.1 g (by rw [hA]; simp [Value.ownBlock])
 have hin := h.inn i t ht g hok
 have h2 := h.hiw
 have hfl : t.flip.xs = v :: r := by
  show flip t.xs = _
  rw [hx, hv]
  rfl
 have hset : ∀ (j : Nat) s, (T.set i t.flip)[j]? = some s → (j = i ∧ s = t.flip) ∨ (j ≠ i ∧ T[j]? = some s) := fun j s hj => by
  by_cases e : j = i
  ·subst e
   rw [List.getElem?_set_self hil] at hj
   exact .inl ⟨rfl, (Option.some.inj hj).symm⟩
  ·rw [List.getElem?_set_ne (fun e2 => e e2.symm)] at hj
   exact .inr ⟨e, hj⟩
 have hback : ∀ (j : Nat) s, (T.set i t.flip)[j]? = some s → ∃ s', T[j]? = some s' ∧ s'.ok = s.ok := fun j s hj => by
  rcases hset j s hj with ⟨rfl, rfl⟩ | ⟨_, h1⟩
  ·exact ⟨t, ht, rfl⟩
  ·exact ⟨s, h1, rfl⟩
 refine ⟨?_, ?_, ?_, ?_, h.below.setCell (by show lo ≤ g; exact hin.1) _, ?_, h2, h.low⟩
 ·have e : (T.set i t.flip).map Tg.hd = T.map Tg.hd := by
   rw [List.map_set, Tg.hd_flip]
   exact List.set_getElem?_self' (by rw [List.getElem?_map, ht]; rfl)
  rw [e]
  exact Kd.R_mono (Kd.R_far (p := ⟨g, 0, none⟩) (ok := fun k => w.heap.size ≤ k) (Kd.R_mono (Kd.R_bound h.row) (fun k hk => hk.2.1)) (fun k hk => by show k ≠ g; omega) _) (fun _ _ => trivial)
 ·intro j s hj
  rcases hset j s hj with ⟨rfl, rfl⟩ | ⟨hne, h1⟩
  ·have e1 : (t.flip.xs ++ t.flip.m).length = (t.xs ++ t.m).length := by rw [hfl, hx]; rfl
   show Kd.R kI 3 _ base t.ok (.slice t.A (t.flip.xs ++ t.flip.m).length t.c) (t.flip.xs ++ t.m)
   rw [e1, hA]
   rw [hA] at hr
   have := (Kd.R_put hr (0 : Int) v).1
   rw [hfl]
   rw [show (t.xs ++ t.m).set (0 : Int).toNat v = v :: r ++ t.m from by rw [hx]; rfl] at this
   exact this
  ·exact Kd.R_far (p := ⟨g, 0, none⟩) (h.fam j s h1) (fun k hk e => h.apart j i s t hne h1 ht k hk (by rw [show k = g from e]; exact hok)) _
 ·intro a b s s' hab ha hb k hk
  obtain ⟨u, hu, eu⟩ := hback a s ha
  obtain ⟨u', hu', eu'⟩ := hback b s' hb
  rw [← eu] at hk
  rw [← eu']
  exact h.apart a b u u' hab hu hu' k hk
 ·intro j s hj k hk
  obtain ⟨u, hu, eu⟩ := hback j s hj
  rw [← eu] at hk
  exact h.inn j u hu k hk
 ·intro k hk hn
  have hkg : k ≠ g := fun e => hn i t.flip (List.getElem?_set_self hil) (by rw [e]; exact hok)
  refine (Below.heap_setCell W ⟨g, 0, none⟩ _ k hkg).trans (h.keep k hk (fun j s hj => ?_))
  by_cases e : j = i
  ·subst e
   rw [ht] at hj
   rw [← Option.some.inj hj]
   exact hn j t.flip (List.getElem?_set_self hil)
  ·exact hn j s (by rw [List.getElem?_set_ne (fun e2 => e e2.symm)]; exact hj)
end
/-- the lists when i of them are written -/
def upTo (T : List Tg) (i : Nat) : List Tg := (T.take i).map Tg.flip ++ T.drop i
theorem upTo_get (T : List Tg) (i : Nat) : (upTo T i)[i]? = T[i]? := by
 unfold upTo
 by_cases h : i < T.length
 ·have hl : ((T.take i).map Tg.flip).length = i := by rw [List.length_map, List.length_take]; omega
  rw [List.getElem?_append_right (by omega), hl, Nat.sub_self, List.getElem?_drop, Nat.add_zero]
 ·rw [List.getElem?_eq_none (l := T) (by omega), List.getElem?_eq_none (by rw [List.length_append, List.length_map, List.length_take, List.length_drop]; omega)]
theorem upTo_length (T : List Tg) (i : Nat) : (upTo T i).length = T.length := by
 unfold upTo
 rw [List.length_append, List.length_map, List.length_take, List.length_drop]
 omega
theorem upTo_set (T : List Tg) {i : Nat} {t : Tg} (ht : T[i]? = some t) : (upTo T i).set i t.flip = upTo T (i + 1) := by
 have h := (List.getElem?_eq_some_iff.1 ht)
 obtain ⟨hi, he⟩ := h
 have hl : ((T.take i).map Tg.flip).length = i := by rw [List.length_map, List.length_take]; omega
 unfold upTo
 rw [List.set_append_right _ _ (by omega), hl, Nat.sub_self, List.drop_eq_getElem_cons hi, he, List.set_cons_zero, List.take_add_one, ht, List.map_append, List.append_assoc]
 rfl
theorem upTo_same (T : List Tg) {i : Nat} {t : Tg} (ht : T[i]? = some t) (hx : t.xs = []) : upTo T (i + 1) = upTo T i := by
 have e : t.flip = t := by cases t; simp only at hx; subst hx; rfl
 have h := upTo_set T ht
 rw [e] at h
 rw [← h]
 exact (List.set_getElem?_self' (by rw [upTo_get]; exact ht))
theorem upTo_end (T : List Tg) : upTo T T.length = T.map Tg.flip := by
 unfold upTo
 rw [List.take_length, List.drop_length, List.append_nil]
end Go.Proofs.YtfonajakaimnoaaDoor.C11

/- caesuralaw11.over: the first rows, lent out of what was lent. -/
namespace Go.Proofs.YtfonajakaimnoaaDoor.C11
open Go.RowKit Go.Proofs.YtfonajakaimnoaaDoorW.PrintWords Go.Proofs.YtfonajakaimnoaaDoorW.PrintLast Go.Proofs.YtfonajakaimnoaaDoorW.PrintMore Go.Proofs.YtfonajakaimnoaaDoor.Lib Lent Go.Proofs.YtfonajakaimnoaaDoor.Fn Go.Proofs.YtfonajakaimnoaaDoor.Lend
set_option linter.unusedVariables false
set_option linter.unusedSimpArgs false

/-- what is written of a list of lists: its first row, if there is one -/
structure Firsts (w : World) (base : Nat) (ok : Nat → Prop) (B : Option Addr) (d : Nat) (L : LL) (T : List Tg) : Prop where
 at_ : (L = [] ∧ T = []) ∨ (0 < L.length ∧ ∃ g t, T = [t] ∧ B = some ⟨g, 0, none⟩ ∧ w.cell? ⟨g, 0, none⟩ = some (.slice t.A t.xs.length t.c))
 fam : ∀ t ∈ T, Kd.R kI 3 w base t.ok (.slice t.A (t.xs ++ t.m).length t.c) (t.xs ++ t.m)
 inn : ∀ t ∈ T, ∀ k, t.ok k → ok k
 one : T.length ≤ 1
 close : ∀ W' : World, (∀ k, ok k → (∀ t ∈ T, ¬ t.ok k) → k < w.heap.size → W'.heap[k]? = w.heap[k]?) → (∀ t ∈ T, Kd.R kI 3 W' base t.ok (.slice t.A (t.flip.xs ++ t.m).length t.c) (t.flip.xs ++ t.m)) →
  Kd.S kM 25 W' base ok (.slice B (rowsM (overL L)).length d) (rowsM (overL L))
theorem firsts {w : World} {base : Nat} {ok : Nat → Prop} {B : Option Addr} {d : Nat} {L : LL} (h : Kd.S kM 25 w base ok (.slice B (rowsM L).length d) (rowsM L)) : ∃ T, Firsts w base ok B d L T := by
 cases L with
 | nil => exact ⟨[], .inl ⟨rfl, rfl⟩, (fun t ht => by cases ht), (fun t ht => by cases ht), Nat.zero_le _, fun W' hm _ => Kd.S_step h (fun k hk hlt => hm k hk (fun t ht => by cases ht) hlt)⟩
 | cons x r =>
  obtain ⟨g, cap, e, _, _, _⟩ := Kd.S_form h (by rw [rowsM_length]; exact Nat.succ_pos _)
  injection e with e1 e2 e3
  subst e1
  obtain ⟨oki, c, _, hM, hcc, hoki, hH⟩ := Kd.S_lend h ([], []) (0 : Int) (by omega) (by rw [rowsM_length]; omega)
  obtain ⟨A', c', rfl, hR⟩ := hM
  have hx : (rowsM (x :: r)).getD (0 : Int).toNat ([], []) = (x, [-77, -77]) := rfl
  rw [hx] at hR hcc hH
  refine ⟨[⟨A', c', x, [-77, -77], oki⟩], .inr ⟨Nat.succ_pos _, g, _, rfl, rfl, hcc 0 _ rfl⟩, fun t ht => ?_, fun t ht k hk => ?_, Nat.le_refl _, fun W' hm hf => ?_⟩
  ·rw [List.mem_singleton.1 ht]
   exact hR
  ·rw [List.mem_singleton.1 ht] at hk
   exact (hoki k hk).1
  ·have hH' := Kd.H_step (w1 := W') hH (fun k hk hn hlt => hm k hk (fun t ht => by rw [List.mem_singleton.1 ht]; exact hn) hlt)
   have hR' := hf _ (List.mem_singleton.2 rfl)
   have := Kd.H_back hH' (x' := (flip x, [-77, -77])) (okp := oki) ⟨A', c', by rw [flip_length], hR'⟩ (fun _ hk => hk)
   rw [show (0 : Int).toNat = 0 from rfl, rowsM_over] at this
   rw [show (rowsM (overL (x :: r))).length = (rowsM (x :: r)).length from by rw [rowsM_length, rowsM_length, overL_length]]
   exact this
/-- all that is written -/
def allT (B1 B2 : Option Addr) (d1 d2 h1 h2 h3 : Nat) (F La : List Int) (T1 T3 : List Tg) : List Tg :=
 [⟨B1, d1, F, [-77, -77], rng h1 h2⟩, ⟨B2, d2, La, [-77, -77], rng h2 h3⟩] ++ T1 ++ T3
section
variable {base h0 h1 h2 h3 h4 : Nat} {B0 B1 B2 B3 : Option Addr} {d0 d1 d2 d3 : Nat} {L : LL} {F La : List Int} {Fo : LL} {w : World} {T1 T3 : List Tg}
theorem allT_get (i : Nat) (t : Tg) (h : (allT B1 B2 d1 d2 h1 h2 h3 F La T1 T3)[i]? = some t) : (i = 0 ∧ t = ⟨B1, d1, F, [-77, -77], rng h1 h2⟩) ∨ (i = 1 ∧ t = ⟨B2, d2, La, [-77, -77], rng h2 h3⟩) ∨ (2 ≤ i ∧ i < 2 + T1.length ∧ t ∈ T1) ∨ (2 + T1.length ≤ i ∧ i < 2 + T1.length + T3.length ∧ t ∈ T3) := by
 unfold allT at h
 match i with
 | 0 => exact .inl ⟨rfl, (Option.some.inj h).symm⟩
 | 1 => exact .inr (.inl ⟨rfl, (Option.some.inj h).symm⟩)
 | i + 2 =>
  have h' : (T1 ++ T3)[i]? = some t := by simpa using h
  by_cases hi : i < T1.length
  ·rw [List.getElem?_append_left hi] at h'
   exact .inr (.inr (.inl ⟨by omega, by omega, List.mem_of_getElem? h'⟩))
  ·rw [List.getElem?_append_right (by omega)] at h'
   have := (List.getElem?_eq_some_iff.1 h').1
   exact .inr (.inr (.inr ⟨by omega, by omega, List.mem_of_getElem? h'⟩))
theorem ovr_start (hP : LP base h0 h1 h2 h3 h4 B0 B1 B2 B3 d0 d1 d2 d3 L F La Fo w) (f1 : Firsts w base (rng h0 h1) B0 d0 L T1) (f3 : Firsts w base (rng h3 h4) B3 d3 Fo T3) {v2 : Value} {W : World}
  (hr : Kd.R kT 25 W w.heap.size (fun _ => True) v2 ((allT B1 B2 d1 d2 h1 h2 h3 F La T1 T3).map Tg.hd)) (hb : Below w.heap.size w W) : Ovr w h0 h4 base v2 (allT B1 B2 d1 d2 h1 h2 h3 F La T1 T3) W := by
 have o1 := hP.o1
 have o2 := hP.o2
 have o3 := hP.o3
 have o4 := hP.o4
 have o5 := hP.o5
 refine ⟨hr, fun i t ht => ?_, fun i j s t hij hs ht k hk hk2 => ?_, fun i t ht k hk => ?_, hb.mono (by omega), fun k hk _ => hb.block k hk, o5, by omega⟩
 ·refine Kd.R_below ?_ hb
  rcases allT_get i t ht with ⟨_, rfl⟩ | ⟨_, rfl⟩ | ⟨_, _, hm⟩ | ⟨_, _, hm⟩
  ·exact hP.p1
  ·exact hP.p2
  ·exact f1.fam t hm
  ·exact f3.fam t hm
 ·have l1 := f1.one
  have l3 := f3.one
  rcases allT_get i s hs with ⟨_, rfl⟩ | ⟨_, rfl⟩ | ⟨_, _, hm⟩ | ⟨_, _, hm⟩ <;> rcases allT_get j t ht with ⟨_, rfl⟩ | ⟨_, rfl⟩ | ⟨_, _, hm2⟩ | ⟨_, _, hm2⟩
  all_goals try omega
  all_goals
   (try have q1 := f1.inn _ hm k hk)
   (try have q2 := f3.inn _ hm k hk)
   (try have q3 := f1.inn _ hm2 k hk2)
   (try have q4 := f3.inn _ hm2 k hk2)
   simp only [rng] at *
   omega
 ·rcases allT_get i t ht with ⟨_, rfl⟩ | ⟨_, rfl⟩ | ⟨_, _, hm⟩ | ⟨_, _, hm⟩
  ·simp only [rng] at hk; omega
  ·simp only [rng] at hk; omega
  ·have := f1.inn t hm k hk; simp only [rng] at this; omega
  ·have := f3.inn t hm k hk; simp only [rng] at this; omega
theorem mem_at {T : List Tg} {t : Tg} (h : t ∈ T) : ∃ i, i < T.length ∧ T[i]? = some t := by
 obtain ⟨i, hi, e⟩ := List.getElem_of_mem h
 exact ⟨i, hi, by rw [List.getElem?_eq_getElem hi, e]⟩
theorem ovr_end (hP : LP base h0 h1 h2 h3 h4 B0 B1 B2 B3 d0 d1 d2 d3 L F La Fo w) (f1 : Firsts w base (rng h0 h1) B0 d0 L T1) (f3 : Firsts w base (rng h3 h4) B3 d3 Fo T3) {v2 : Value} {W : World}
  (h : Ovr w h0 h4 base v2 ((allT B1 B2 d1 d2 h1 h2 h3 F La T1 T3).map Tg.flip) W) :
  LP base h0 h1 h2 h3 h4 B0 B1 B2 B3 d0 d1 d2 d3 (overL L) (flip F) (flip La) (overL Fo) W ∧ Below h0 w W ∧ ∀ k, h4 ≤ k → k < w.heap.size → W.heap[k]? = w.heap[k]? := by
 have o1 := hP.o1
 have o2 := hP.o2
 have o3 := hP.o3
 have o4 := hP.o4
 have o5 := hP.o5
 have hget : ∀ (i : Nat) t, (allT B1 B2 d1 d2 h1 h2 h3 F La T1 T3)[i]? = some t → ((allT B1 B2 d1 d2 h1 h2 h3 F La T1 T3).map Tg.flip)[i]? = some t.flip := fun i t ht => by rw [List.getElem?_map, ht]; rfl
 have hfree : ∀ k, k < w.heap.size → (∀ (i : Nat) t, (allT B1 B2 d1 d2 h1 h2 h3 F La T1 T3)[i]? = some t → ¬ t.ok k) → W.heap[k]? = w.heap[k]? := fun k hk hn => h.keep k hk (fun i t ht => by
  rw [List.getElem?_map] at ht
  obtain ⟨s, hs, rfl⟩ := Option.map_eq_some_iff.1 ht
  exact hn i s hs)
 have m1 : ∀ t ∈ T1, ∃ i, (allT B1 B2 d1 d2 h1 h2 h3 F La T1 T3)[i]? = some t := fun t ht => by
  obtain ⟨i, hi, e⟩ := mem_at ht
  refine ⟨i + 2, ?_⟩
  show (T1 ++ T3)[i]? = some t
  rw [List.getElem?_append_left hi, e]
 have m3 : ∀ t ∈ T3, ∃ i, (allT B1 B2 d1 d2 h1 h2 h3 F La T1 T3)[i]? = some t := fun t ht => by
  obtain ⟨i, hi, e⟩ := mem_at ht
  refine ⟨T1.length + i + 2, ?_⟩
  show (T1 ++ T3)[T1.length + i]? = some t
  rw [List.getElem?_append_right (by omega), Nat.add_sub_cancel_left, e]
 have e1 : ∀ X : List Int, (marks (flip X)).length = (marks X).length := fun X => by simp [marks, flip_length]
 refine ⟨⟨f1.close W (fun k hk hn hlt => hfree k hlt (fun i t ht hk2 => ?_)) (fun t ht => ?_), h.fam 0 _ (hget 0 _ rfl), h.fam 1 _ (hget 1 _ rfl), f3.close W (fun k hk hn hlt => hfree k hlt (fun i t ht hk2 => ?_)) (fun t ht => ?_), hP.o0, o1, o2, o3, o4, Nat.le_trans o5 h.below.size⟩, h.below, fun k hk hlt => hfree k hlt (fun i t ht hk2 => ?_)⟩
 ·rcases allT_get i t ht with ⟨_, rfl⟩ | ⟨_, rfl⟩ | ⟨_, _, hm⟩ | ⟨_, _, hm⟩
  ·simp only [rng] at hk hk2; omega
  ·simp only [rng] at hk hk2; omega
  ·exact hn t hm hk2
  ·have := f3.inn t hm k hk2; simp only [rng] at hk this; omega
 ·obtain ⟨i, hi⟩ := m1 t ht
  exact h.fam i _ (hget i t hi)
 ·rcases allT_get i t ht with ⟨_, rfl⟩ | ⟨_, rfl⟩ | ⟨_, _, hm⟩ | ⟨_, _, hm⟩
  ·simp only [rng] at hk hk2; omega
  ·simp only [rng] at hk hk2; omega
  ·have := f1.inn t hm k hk2; simp only [rng] at hk this; omega
  ·exact hn t hm hk2
 ·obtain ⟨i, hi⟩ := m3 t ht
  exact h.fam i _ (hget i t hi)
 ·rcases allT_get i t ht with ⟨_, rfl⟩ | ⟨_, rfl⟩ | ⟨_, _, hm⟩ | ⟨_, _, hm⟩
  ·simp only [rng] at hk2; omega
  ·simp only [rng] at hk2; omega
  ·have := f1.inn t hm k hk2; simp only [rng] at this; omega
  ·have := f3.inn t hm k hk2; simp only [rng] at this; omega
end
end Go.Proofs.YtfonajakaimnoaaDoor.C11

/- caesuralaw11.over: its walk. -/
namespace Go.Proofs.YtfonajakaimnoaaDoor.C11
open Go.RowKit Go.Proofs.YtfonajakaimnoaaDoorW.PrintWords Go.Proofs.YtfonajakaimnoaaDoorW.PrintLast Go.Proofs.YtfonajakaimnoaaDoorW.PrintMore Go.Proofs.YtfonajakaimnoaaDoor.Lib Lent Go.Proofs.YtfonajakaimnoaaDoor.Fn Go.Proofs.YtfonajakaimnoaaDoor.Lend
set_option linter.unusedVariables false
set_option linter.unusedSimpArgs false
attribute [local go_sem] max2_int min2_int max_two min_two max_three min_three max_four min_four

def ovr.T10 : Bool × List (List Nat × List Nat) := (true, [([], []), ([], []), ([0, 1], [0, 1]), ([2], [2]), ([], []), ([], []), ([4, 5], [4, 5]), ([6], [6]), ([7], [7]), ([8], [8]), ([9], [9]), ([10], [10]), ([3, 0, 1, 2, 3, 4, 5, 6, 7, 8, 9, 10, 11], [3]), ([12, 11, 10, 0, 1, 2, 3, 4, 5, 6, 7, 8, 9, 10, 11], [11, 12])])
def ovr.B10 : List Nat := [0, 0, 3, 7, 0, 0, 48, 112, 240, 496, 1008, 2032, 4095, 8191]
theorem ovr.tab10 : rtab .any (opsOf Tryd.f33 10) = ovr.T10 := by kernel_rfl
theorem ovr.bits10 : waitsOk ovr.T10.2 ovr.B10 = true := by kernel_rfl

theorem two_slots {W : World} {base : Nat} (hb : base ≤ W.heap.size) (s t : Option Addr × Nat × Nat) :
  Kd.R kT 25 (W.alloc (.cells #[.slice s.1 s.2.1 s.2.2, .slice t.1 t.2.1 t.2.2] 25)) base (fun _ => True) (.slice (some ⟨W.heap.size, 0, none⟩) 2 2) [s, t] :=
 ⟨fun _ _ => trivial, [.slice s.1 s.2.1 s.2.2, .slice t.1 t.2.1 t.2.2], ⟨rfl, .inr ⟨W.heap.size, 2, #[.slice s.1 s.2.1 s.2.2, .slice t.1 t.2.1 t.2.2], rfl, hb, heap_alloc_new _ _, Nat.le_refl 2, by simp [maxLen], rfl, rfl⟩⟩, by
  refine ⟨rfl, fun j p hj => ?_⟩
  match j with
  | 0 => simp only [List.getElem?_cons_zero, Option.some.injEq] at hj; subst hj; rfl
  | 1 => simp only [List.getElem?_cons_succ, List.getElem?_cons_zero, Option.some.injEq] at hj; subst hj; rfl
  | j + 2 => simp at hj⟩
theorem wrap_pk2 (x : Int) : wrap64 (1 - pk2 x) = 1 - pk2 x := by
 have := pk2_in x
 unfold wrap64
 omega
/-- what over leaves -/
def overPost (base h0 h1 h2 h3 h4 : Nat) (B0 B1 B2 B3 : Option Addr) (d0 d1 d2 d3 : Nat) (L : LL) (F La : List Int) (Fo : LL) (w : World) : Ending → World → Prop := fun e w' =>
 e = .returned (.tuple #[]) ∧ LP base h0 h1 h2 h3 h4 B0 B1 B2 B3 d0 d1 d2 d3 (overL L) (flip F) (flip La) (overL Fo) w' ∧ Below h0 w w' ∧ ∀ k, h4 ≤ k → k < w.heap.size → w'.heap[k]? = w.heap[k]?
/-- in the first half -/
structure Oh (w : World) (box : Obj) (v2 : Value) (X : List (Option Addr × Nat × Nat)) (W : World) : Prop where
 row : Kd.R kT 25 W w.heap.size (fun k => w.heap.size < k) v2 X
 below : Below w.heap.size w W
 old : W.heap[w.heap.size]? = some box
set_option maxHeartbeats 4000000 in
set_option maxRecDepth 100000 in
theorem over_calls {base h0 h1 h2 h3 h4 : Nat} {B0 B1 B2 B3 : Option Addr} {d0 d1 d2 d3 : Nat} {L : LL} {F La : List Int} {Fo : LL} {w : World} (b : Bool) (h : LP base h0 h1 h2 h3 h4 B0 B1 B2 B3 d0 d1 d2 d3 L F La Fo w) :
  Calls Tryd.prog 33 #[.agg #[.slice B0 L.length d0, .slice B1 F.length d1, .slice B2 La.length d2, .slice B3 Fo.length d3, .bool b]] w (overPost base h0 h1 h2 h3 h4 B0 B1 B2 B3 d0 d1 d2 d3 L F La Fo w) := by
 have hu := Tryd.underlying42
 have HP := Aside0.mk h
 obtain ⟨T1, hf1⟩ := firsts h.p0
 obtain ⟨T3, hf3⟩ := firsts h.p3
 have F1 := Aside0.mk hf1
 have F3 := Aside0.mk hf3
 clear h hf1 hf3
 go_enter Tryd.func33, Tryd.ntmps33
 go_upto_region 2 with fail
 have HO : Aside0 (Oh w (.cells #[.slice B0 L.length d0, .slice B1 F.length d1, .slice B2 La.length d2, .slice B3 Fo.length d3, .bool b] 42 (0, 0)) (.slice (some ⟨w.heap.size + 1, 0, none⟩) 2 2) ([(⟨B1, F.length, d1⟩ : Option Addr × Nat × Nat), ⟨B2, La.length, d2⟩])
   ((w.alloc (.cells #[.slice B0 L.length d0, .slice B1 F.length d1, .slice B2 La.length d2, .slice B3 Fo.length d3, .bool b] 42)).alloc (.cells #[.slice B1 F.length d1, .slice B2 La.length d2] 25))) := ⟨by
  have hr := two_slots (W := w.alloc (.cells #[.slice B0 L.length d0, .slice B1 F.length d1, .slice B2 La.length d2, .slice B3 Fo.length d3, .bool b] 42)) (base := w.heap.size + 1) (by simp) (⟨B1, F.length, d1⟩ : Option Addr × Nat × Nat) ⟨B2, La.length, d2⟩
  rw [show (w.alloc (.cells #[.slice B0 L.length d0, .slice B1 F.length d1, .slice B2 La.length d2, .slice B3 Fo.length d3, .bool b] 42)).heap.size = w.heap.size + 1 from by simp] at hr
  refine ⟨Kd.R_mono (Kd.R_lower (Kd.R_bound hr) (Nat.le_succ _)) (fun k hk => hk.2.1), below_alloc (below_alloc (Below.refl _ _) _) _, (heap_alloc_old _ _ (by simp)).trans (heap_alloc_new _ _)⟩⟩
 generalize World.alloc _ _ = wa at HO ⊢
 have z0 : wa.cell? ⟨w.heap.size, 0, none⟩ = some (.slice B0 L.length d0) := (blk_cell HO.out.old 0).trans rfl
 go_upto_if 12 with fail
 go_cut [2] (fun v2 wc => Aside0 (Oh w (.cells #[.slice B0 L.length d0, .slice B1 F.length d1, .slice B2 La.length d2, .slice B3 Fo.length d3, .bool b] 42 (0, 0)) v2 ([(⟨B1, F.length, d1⟩ : Option Addr × Nat × Nat), ⟨B2, La.length, d2⟩] ++ T1.map Tg.hd) wc))
 case first =>
  rcases F1.out.at_ with ⟨e1, e2⟩ | ⟨hn, g, t, e2, e3, e4⟩
  ·subst e1 e2
   go_wp2_with fail
   go_meet
   exact ⟨by rw [List.map_nil, List.append_nil]; exact HO.out⟩
  ·subst e2 e3
   have hnz : (0 : Int) < (L.length : Int) := by omega
   have hcell := pw_cell_below HO.out.below e4
   clear e4
   go_wp2_with ((with_reducible refine gate_builtin (b := .append) (xs := #[.tmp 13, .tmp 18]) rfl ?_); at_builtin; refine Kd.R_append kT (w0 := w) w.heap.size rfl (.tmp 13) (.tmp 18) 22 25 (.slice none 0 0) 24 rfl Tryd.underlying22 info25 rfl (by decide) (by omega) _ [(⟨B1, F.length, d1⟩ : Option Addr × Nat × Nat), ⟨B2, La.length, d2⟩] t.hd [.slice t.A t.xs.length t.c] (fun k => w.heap.size < k) (fun _ => False) rfl rfl ?aP (fun _ hk => hk.elim) ?aF ?aO ?aB ?aS ?aL ?_; (case aP => exact rfl); (case aF => exact (fun k hk => Nat.lt_of_lt_of_le (blk_lt HO.out.old) hk)); (case aO => exact HO.out.row); (case aB => exact HO.out.below); (case aS => exact HO.out.below.size); (case aL => show (2 + 1) * 24 ≤ _; omega); intro vz wz hoz hbz hgz hatz; have HO2 : Aside0 (Oh w _ vz ([(⟨B1, F.length, d1⟩ : Option Addr × Nat × Nat), ⟨B2, La.length, d2⟩] ++ [t].map Tg.hd) wz) := ⟨⟨hoz, hbz, blk_grown HO.out.old hgz (fun e => by have := HO.out.row.1 _ e.symm; omega)⟩⟩; clear hoz hbz hgz hatz)
   go_meet
   exact HO2
 case rest =>
  clear HO z0
  have HO := hcut
  clear hcut
  have z3 : wc.cell? ⟨w.heap.size, 3, none⟩ = some (.slice B3 Fo.length d3) := (blk_cell HO.out.old 3).trans rfl
  go_upto_if 23 with fail
  go_cut [2] (fun v2 wc => Aside0 (Oh w (.cells #[.slice B0 L.length d0, .slice B1 F.length d1, .slice B2 La.length d2, .slice B3 Fo.length d3, .bool b] 42 (0, 0)) v2 ((allT B1 B2 d1 d2 h1 h2 h3 F La T1 T3).map Tg.hd) wc))
  case first =>
   rcases F3.out.at_ with ⟨e1, e2⟩ | ⟨hn, g, t, e2, e3, e4⟩
   ·subst e1 e2
    go_wp2_with fail
    go_meet
    exact ⟨by have hqq := HO.out; rw [show (allT B1 B2 d1 d2 h1 h2 h3 F La T1 []).map Tg.hd = [(⟨B1, F.length, d1⟩ : Option Addr × Nat × Nat), ⟨B2, La.length, d2⟩] ++ T1.map Tg.hd from by simp [allT, Tg.hd]]; exact hqq⟩
   ·subst e2 e3
    have hnz : (0 : Int) < (Fo.length : Int) := by omega
    have hcell := pw_cell_below HO.out.below e4
    have hl1 := F1.out.one
    obtain ⟨A7, c7, e7⟩ := Kd.R_slice HO.out.row
    generalize hm7 : ([(⟨B1, F.length, d1⟩ : Option Addr × Nat × Nat), ⟨B2, La.length, d2⟩] ++ T1.map Tg.hd).length = m7 at e7
    subst e7
    have HM : Aside0 (m7 ≤ 3) := ⟨by rw [← hm7]; simp; omega⟩
    have HM7 := Aside0.mk hm7
    have HL1 := Aside0.mk hl1
    clear e4 hm7 hl1
    go_wp2_with ((with_reducible refine gate_builtin (b := .append) (xs := #[.tmp 24, .tmp 29]) rfl ?_); at_builtin; refine Kd.R_append kT (w0 := w) w.heap.size rfl (.tmp 24) (.tmp 29) 22 25 (.slice none 0 0) 24 rfl Tryd.underlying22 info25 rfl (by decide) (by omega) _ ([(⟨B1, F.length, d1⟩ : Option Addr × Nat × Nat), ⟨B2, La.length, d2⟩] ++ T1.map Tg.hd) t.hd [.slice t.A t.xs.length t.c] (fun k => w.heap.size < k) (fun _ => False) rfl rfl ?aP (fun _ hk => hk.elim) ?aF ?aO ?aB ?aS ?aL ?_; (case aP => exact rfl); (case aF => exact (fun k hk => Nat.lt_of_lt_of_le (blk_lt HO.out.old) hk)); (case aO => exact HO.out.row); (case aB => exact HO.out.below); (case aS => exact HO.out.below.size); (case aL => rw [HM7.out]; have := HM.out; omega); intro vz wz hoz hbz hgz hatz; have HO2 : Aside0 (Oh w _ vz (([(⟨B1, F.length, d1⟩ : Option Addr × Nat × Nat), ⟨B2, La.length, d2⟩] ++ T1.map Tg.hd) ++ [t.hd]) wz) := ⟨⟨hoz, hbz, blk_grown HO.out.old hgz (fun e => by have := HO.out.row.1 _ e.symm; omega)⟩⟩; clear hoz hbz hgz hatz)
    go_meet
    exact ⟨by have hqq := HO2.out; rw [show (allT B1 B2 d1 d2 h1 h2 h3 F La T1 [t]).map Tg.hd = ([(⟨B1, F.length, d1⟩ : Option Addr × Nat × Nat), ⟨B2, La.length, d2⟩] ++ T1.map Tg.hd) ++ [t.hd] from by simp [allT, Tg.hd]]; exact hqq⟩
  case rest =>
   clear HO z3
   have HV := Aside0.mk (ovr_start HP.out F1.out F3.out (Kd.R_mono hcut.out.row (fun _ _ => trivial)) hcut.out.below)
   have hTl : Aside0 ((allT B1 B2 d1 d2 h1 h2 h3 F La T1 T3).length ≤ 4) := ⟨by have := F1.out.one; have := F3.out.one; simp [allT]; omega⟩
   have hT2 : Aside0 (0 < (allT B1 B2 d1 d2 h1 h2 h3 F La T1 T3).length) := ⟨by simp [allT]⟩
   have HEnd := Aside0.mk (fun {v2 : Value} {W : World} (h : Ovr w h0 h4 base v2 ((allT B1 B2 d1 d2 h1 h2 h3 F La T1 T3).map Tg.flip) W) => ovr_end HP.out F1.out F3.out h)
   clear hcut F1 F3 HP
   generalize allT B1 B2 d1 d2 h1 h2 h3 F La T1 T3 = T at HV hTl hT2 HEnd
   obtain ⟨t0, ht0⟩ : ∃ t, T[0]? = some t := ⟨_, List.getElem?_eq_getElem hT2.out⟩
   obtain ⟨bl, cap, rfl, _, _⟩ := HV.out.slot ht0
   clear ht0 hT2
   have hN := hTl.out
   rw [show T = upTo T 0 from by simp [upTo]] at HV
   rw [upTo_length] at *
   go_wp2_with fail
   go_loopg [3] T.length (fun gg v3 wr => ∃ (i : Nat), i ≤ T.length ∧ T.length - i ≤ gg ∧ v3 = .int .i64 i ∧ Aside0 (Ovr w h0 h4 base (.slice (some ⟨bl, 0, none⟩) T.length cap) (upTo T i) wr))
   case atStart => exact ⟨0, Nat.zero_le _, by omega, rfl, HV⟩
   case round =>
    clear HV
    obtain ⟨i, hi, hg, rfl, HV⟩ := hrel
    by_cases hlt : i < T.length
    ·have hltz : (i : Int) < (T.length : Int) := by omega
     obtain ⟨t, ht⟩ : ∃ t, T[i]? = some t := ⟨_, List.getElem?_eq_getElem hlt⟩
     have hut : (upTo T i)[i]? = some t := (upTo_get T i).trans ht
     have HT := Aside0.mk (And.intro ht hut)
     have HC0 : Aside0 (∀ W, Ovr w h0 h4 base (.slice (some ⟨bl, 0, none⟩) T.length cap) (upTo T i) W → W.cell? ⟨bl, i, none⟩ = some (.slice t.A t.xs.length t.c)) := ⟨fun W hW => by
      obtain ⟨bl', cap', e, _, hc⟩ := hW.slot HT.out.2
      injection e with e1 e2 e3
      injection e1 with e1
      injection e1 with e1
      rw [e1]
      exact hc⟩
     have hcell := HC0.out _ HV.out
     clear ht hut
     obtain ⟨tA, tc, txs, tm, tok⟩ := t
     cases hx : txs with
     | nil =>
      have HX : Aside0 (upTo T (i + 1) = upTo T i) := ⟨upTo_same T HT.out.1 hx⟩
      subst hx
      clear HT HC0
      go_wp2_with fail
      go_roundg (T.length - (i + 1))
      case measure => omega
      case rel => exact ⟨i + 1, by omega, by omega, by go_num, ⟨by rw [HX.out]; exact HV.out⟩⟩
     | cons x r =>
      subst hx
      obtain ⟨g, rfl, hg1, hg2, _, _⟩ := HV.out.at HT.out.2 rfl
      have HC : Aside0 (∀ W, Ovr w h0 h4 base (.slice (some ⟨bl, 0, none⟩) T.length cap) (upTo T i) W → W.cell? ⟨bl, i, none⟩ = some (.slice (some ⟨g, 0, none⟩) (x :: r).length tc) ∧ W.cell? ⟨g, 0, none⟩ = some (.int .i64 x) ∧ W.frozen? ⟨g, 0, none⟩ = false) := ⟨fun W hW => by
       obtain ⟨g', e, _, _, _, h5, h6⟩ := hW.at HT.out.2 rfl
       injection e with e
       injection e with e
       subst e
       exact ⟨HC0.out W hW, h5, h6⟩⟩
      clear HC0
      have hlen : Aside0 ((x :: r).length = r.length + 1) := ⟨rfl⟩
      generalize (x :: r).length = n at hcell HC hlen
      have hn1 : 0 < n := by have := hlen.out; omega
      have hn2 : (0 : Int) < (n : Int) := by omega
      go_upto_region 10 with fail
      clear hcell
      replace HV := Aside0.mk (HV.out.step (below_drew (Below.refl _ wr)))
      refine start_ (n := 14) (S := fun w' => w'.cell? ⟨bl, i, none⟩ = some (.slice (some ⟨g, 0, none⟩) n tc) ∧ w'.cell? ⟨g, 0, none⟩ = some (.int .i64 x)) (ds := [13]) #[false, false, false, false, false, false, false, false, false, false, false, false, false, false] (by kernel_rfl) rfl rfl ⟨(HC.out _ HV.out).1, (HC.out _ HV.out).2.1⟩ (fun hHeld => ?_)
      refine with_tabW ovr.tab10 ovr.bits10 (fun HT_ HW_ => ?_)
      generalize wr.drew = wn at HV hHeld ⊢
      refine pure_ (i := 0) (N := some 43) (v := ?_) (a' := ?_) #[true, false, false, false, false, false, false, false, false, false, false, false, false, false] rfl rfl (any_of HT_.out (by kernel_rfl)) (fun _ _ _ h => h) (Or.inl ⟨by rfl, ?_⟩) ?_ ?_
      rotate_left
      ·intro w'
       go_simp
       with_reducible rfl
      rotate_left
      ·simp only [Act.put, List.setIfInBounds_toArray, List.set_cons_zero, List.set_cons_succ, i64_w, i32_w]
       rfl
      refine pure_ (i := 1) (N := some 44) (v := ?_) (a' := ?_) #[true, true, false, false, false, false, false, false, false, false, false, false, false, false] rfl rfl (any_of HT_.out (by kernel_rfl)) (fun _ _ _ h => h) (Or.inl ⟨by rfl, ?_⟩) ?_ ?_
      rotate_left
      ·intro w'
       go_simp
       with_reducible rfl
      rotate_left
      ·simp only [Act.put, List.setIfInBounds_toArray, List.set_cons_zero, List.set_cons_succ, i64_w, i32_w]
       rfl
      refine pure_ (i := 2) (N := some 45) (v := ?_) (a' := ?_) #[true, true, true, false, false, false, false, false, false, false, false, false, false, false] rfl rfl (any_of HT_.out (by kernel_rfl)) (fun _ _ _ h => h) (Or.inl ⟨by rfl, ?_⟩) ?_ ?_
      rotate_left
      ·intro w'
       go_simp
       with_reducible rfl
      rotate_left
      ·simp only [Act.put, List.setIfInBounds_toArray, List.set_cons_zero, List.set_cons_succ, i64_w, i32_w]
       rfl
      refine take_ (i := 3) (N := some 46) (v := ?_) (a' := ?_) #[true, true, true, true, false, false, false, false, false, false, false, false, false, false] rfl rfl (take_ofW HT_.out HW_.out (by kernel_rfl)) (fun _ _ _ h => h) (Or.inl ⟨by rfl, ?_⟩) hHeld ?_ ?_
      rotate_left
      ·rintro w' ⟨s0, s1⟩
       go_simp
       with_reducible rfl
      rotate_left
      ·simp only [Act.put, List.setIfInBounds_toArray, List.set_cons_zero, List.set_cons_succ, i64_w, i32_w]
       rfl
      refine pure_ (i := 4) (N := some 47) (v := ?_) (a' := ?_) #[true, true, true, true, true, false, false, false, false, false, false, false, false, false] rfl rfl (any_of HT_.out (by kernel_rfl)) (fun _ _ _ h => h) (Or.inl ⟨by rfl, ?_⟩) ?_ ?_
      rotate_left
      ·intro w'
       go_simp
       with_reducible rfl
      rotate_left
      ·simp only [Act.put, List.setIfInBounds_toArray, List.set_cons_zero, List.set_cons_succ, i64_w, i32_w]
       rfl
      refine pure_ (i := 5) (N := some 48) (v := ?_) (a' := ?_) #[true, true, true, true, true, true, false, false, false, false, false, false, false, false] rfl rfl (any_of HT_.out (by kernel_rfl)) (fun _ _ _ h => h) (Or.inl ⟨by rfl, ?_⟩) ?_ ?_
      rotate_left
      ·intro w'
       go_simp
       with_reducible rfl
      rotate_left
      ·simp only [Act.put, List.setIfInBounds_toArray, List.set_cons_zero, List.set_cons_succ, i64_w, i32_w]
       rfl
      refine pure_ (i := 6) (N := some 49) (v := ?_) (a' := ?_) #[true, true, true, true, true, true, true, false, false, false, false, false, false, false] rfl rfl (any_of HT_.out (by kernel_rfl)) (fun _ _ _ h => h) (Or.inl ⟨by rfl, ?_⟩) ?_ ?_
      rotate_left
      ·intro w'
       go_simp
       with_reducible rfl
      rotate_left
      ·simp only [Act.put, List.setIfInBounds_toArray, List.set_cons_zero, List.set_cons_succ, i64_w, i32_w]
       rfl
      refine take_ (i := 7) (N := some 50) (v := ?_) (a' := ?_) #[true, true, true, true, true, true, true, true, false, false, false, false, false, false] rfl rfl (take_ofW HT_.out HW_.out (by kernel_rfl)) (fun _ _ _ h => h) (Or.inl ⟨by rfl, ?_⟩) hHeld ?_ ?_
      rotate_left
      ·rintro w' ⟨s0, s1⟩
       go_simp
       with_reducible rfl
      rotate_left
      ·simp only [Act.put, List.setIfInBounds_toArray, List.set_cons_zero, List.set_cons_succ, i64_w, i32_w]
       rfl
      refine pure_ (i := 8) (N := some 51) (v := ?_) (a' := ?_) #[true, true, true, true, true, true, true, true, true, false, false, false, false, false] rfl rfl (any_of HT_.out (by kernel_rfl)) (fun _ _ _ h => h) (Or.inl ⟨by rfl, ?_⟩) ?_ ?_
      rotate_left
      ·intro w'
       go_simp
       with_reducible rfl
      rotate_left
      ·simp only [Act.put, List.setIfInBounds_toArray, List.set_cons_zero, List.set_cons_succ, i64_w, i32_w]
       rfl
      refine take_ (i := 9) (N := some 52) (v := ?_) (a' := ?_) #[true, true, true, true, true, true, true, true, true, true, false, false, false, false] rfl rfl (take_ofW HT_.out HW_.out (by kernel_rfl)) (fun _ _ _ h => h) (Or.inl ⟨by rfl, ?_⟩) hHeld ?_ ?_
      rotate_left
      ·rintro w' ⟨s0, s1⟩
       go_simp
       with_reducible rfl
      rotate_left
      ·simp only [Act.put, List.setIfInBounds_toArray, List.set_cons_zero, List.set_cons_succ, i64_w, i32_w]
       rfl
      refine one_ (i := 10) (N := some 53) #[true, true, true, true, true, true, true, true, true, true, true, false, false, false] rfl rfl (one_of HT_.out (by kernel_rfl)) (by decide) (fun K hK => ?_)
      refine goes_ Tryd.func31 (by kernel_rfl) rfl #[.int .i64 x, .int .i64 2] (by rfl) rfl rfl (by (try simp only [List.map_toArray, List.map_cons, List.map_nil]); first | done | rfl) ?_
      refine (caesurakit_Pick.calls x 2 (pk2 x) _ (pk2_eq x)).mono ?_
      rintro e wm ⟨rfl, ⟨⟨n5, rfl⟩⟩⟩
      refine ⟨_, rfl, ?_⟩
      replace HV := Aside0.mk (HV.out.step (pw_below_drewN (Below.refl _ _) n5))
      generalize wn.drewN n5 = wm at HV ⊢
      obtain ⟨wn, rfl⟩ : ∃ wn, wn = wm := ⟨_, rfl⟩
      have HS := HC.out wn HV.out
      refine hK.out _ _ ⟨HS.1, HS.2.1⟩ (fun hHeld => ?_)
      clear hK K HS
      refine norm_ (a' := ?_) ?_ ?_
      rotate_left
      ·show Act.put _ (some 53) _ = _
       simp only [Act.put, List.setIfInBounds_toArray, List.set_cons_zero, List.set_cons_succ, i64_w, i32_w]
       rfl
      refine pure_ (i := 11) (N := some 54) (v := ?_) (a' := ?_) #[true, true, true, true, true, true, true, true, true, true, true, true, false, false] rfl rfl (any_of HT_.out (by kernel_rfl)) (fun _ _ _ h => h) (Or.inl ⟨by rfl, ?_⟩) ?_ ?_
      rotate_left
      ·intro w'
       go_simp
       with_reducible rfl
      rotate_left
      ·simp only [Act.put, List.setIfInBounds_toArray, List.set_cons_zero, List.set_cons_succ, i64_w, i32_w]
       rfl
      refine pure_ (i := 12) (N := some 55) (v := ?_) (a' := ?_) #[true, true, true, true, true, true, true, true, true, true, true, true, true, false] rfl rfl (any_of HT_.out (by kernel_rfl)) (fun _ _ _ h => h) (Or.inl ⟨by rfl, ?_⟩) ?_ ?_
      rotate_left
      ·intro w'
       go_simp
       with_reducible rfl
      rotate_left
      ·simp only [Act.put, List.setIfInBounds_toArray, List.set_cons_zero, List.set_cons_succ, i64_w, i32_w]
       rfl
      refine last_ (i := 13) (N := none) #[true, true, true, true, true, true, true, true, true, true, true, true, true, true] rfl rfl (one_of HT_.out (by kernel_rfl)) (by decide) (fun K hK => ?_)
      have hs0 := (HC.out wn HV.out).2.1
      have hf0 := (HC.out wn HV.out).2.2
      refine skip_ (w1 := ?_) (by rfl) rfl ?_ ?_
      rotate_left
      ·go_simp
       rfl
      refine hK.out _ _ ?_
      clear hK K
      refine done_ (done_of HT_.out (by kernel_rfl)) ?_
      have HX : Aside0 (Ovr w h0 h4 base (.slice (some ⟨bl, 0, none⟩) T.length cap) (upTo T (i + 1)) (wn.setCell ⟨g, 0, none⟩ (.int .i64 (wrap64 (1 - pk2 x))))) := ⟨by
       have := HV.out.put HT.out.2 (x := x) (r := r) rfl rfl (wrap64 (1 - pk2 x)) (wrap_pk2 x)
       rw [upTo_set T HT.out.1] at this
       exact this⟩
      go_wp2
      go_roundg (T.length - (i + 1))
      case measure => omega
      case rel => exact ⟨i + 1, by omega, by omega, by go_num, HX⟩
    ·have hltz : ¬ (i : Int) < (T.length : Int) := by omega
     obtain rfl : T.length = i := by omega
     rw [upTo_end] at HV
     go_wp2_with fail
     exact bodyPost_ret (v := .tuple #[]) (by simp [results, Tryd.results33, go_sem]) rfl ⟨rfl, HEnd.out HV.out⟩
end Go.Proofs.YtfonajakaimnoaaDoor.C11

/- The chapter's calls, each by one contract over positions that are read. -/
namespace Go.Proofs.YtfonajakaimnoaaDoor.C11
open Go.RowKit Go.Proofs.YtfonajakaimnoaaDoorW.PrintWords Go.Proofs.YtfonajakaimnoaaDoorW.PrintLast Go.Proofs.YtfonajakaimnoaaDoorW.PrintMore Go.Proofs.YtfonajakaimnoaaDoor.Lib Lent Go.Proofs.YtfonajakaimnoaaDoor.Fn Go.Proofs.YtfonajakaimnoaaDoor.Lend
set_option linter.unusedVariables false
set_option linter.unusedSimpArgs false

/-- the bounds that what is read has -/
structure PB (L : LL) (F La : List Int) (Fo : LL) : Prop where
 l : L.length ≤ 5864062014634
 fo : Fo.length ≤ 5864062014634
 f : F.length ≤ 17592186043904
 la : La.length ≤ 17592186043904
 lr : ∀ l ∈ L, l.length ≤ 17592186043904
 fr : ∀ l ∈ Fo, l.length ≤ 17592186043904
theorem PB.over {L : LL} {F La : List Int} {Fo : LL} (h : PB L F La Fo) : PB (overL L) (flip F) (flip La) (overL Fo) :=
 ⟨by rw [overL_length]; exact h.l, by rw [overL_length]; exact h.fo, by rw [flip_length]; exact h.f, by rw [flip_length]; exact h.la, overL_bound h.lr, overL_bound h.fr⟩
/-- positions that are read -/
structure Cs (A0 : Option Addr) (c0 : Nat) (L : LL) (A1 : Option Addr) (c1 : Nat) (F : List Int) (A2 : Option Addr) (c2 : Nat) (La : List Int) (A3 : Option Addr) (c3 : Nat) (Fo : LL) (w : World) : Prop where
 a0 : Kd.C kL w A0 L.length L ∧ L.length ≤ c0
 a1 : Kd.C kI w A1 F.length F ∧ F.length ≤ c1
 a2 : Kd.C kI w A2 La.length La ∧ La.length ≤ c2
 a3 : Kd.C kL w A3 Fo.length Fo ∧ Fo.length ≤ c3
theorem rows_bnd {W : World} {A : Option Addr} {X : LL} (h : Kd.C kL W A X.length X) : ∀ x ∈ X, x.length ≤ 9223372036854775807 := fun x hx => by
 obtain ⟨j, hj, rfl⟩ := List.getElem_of_mem hx
 obtain ⟨_, _, _, _, _, _, hC⟩ := Fn.list_at h j _ (List.getElem?_eq_getElem hj)
 exact Lent.C_bound hC
section
variable {A0 A1 A2 A3 B0 B1 B2 B3 A4 : Option Addr} {c0 c1 c2 c3 d0 d1 d2 d3 c4 : Nat} {L : LL} {F La : List Int} {Fo : LL} {word : List Int} {w w' : World}
theorem Cs.below (h : Cs A0 c0 L A1 c1 F A2 c2 La A3 c3 Fo w) (hb : Below w.heap.size w w') : Cs A0 c0 L A1 c1 F A2 c2 La A3 c3 Fo w' :=
 ⟨⟨Kd.C_below h.a0.1 hb, h.a0.2⟩, ⟨Kd.C_below h.a1.1 hb, h.a1.2⟩, ⟨Kd.C_below h.a2.1 hb, h.a2.2⟩, ⟨Kd.C_below h.a3.1 hb, h.a3.2⟩⟩
theorem LP.cs {base h0 h1 h2 h3 h4 : Nat} (h : LP base h0 h1 h2 h3 h4 A0 A1 A2 A3 c0 c1 c2 c3 L F La Fo w) : Cs A0 c0 L A1 c1 F A2 c2 La A3 c3 Fo w :=
 ⟨h.reads.1, h.reads.2.1, h.reads.2.2.1, h.reads.2.2.2⟩
theorem dcheck_c (h : Cs A0 c0 L A1 c1 F A2 c2 La A3 c3 Fo w) (b : Bool) (s : Int) :
  Calls Tryd.prog 29 #[.agg #[.slice A0 L.length c0, .slice A1 F.length c1, .slice A2 La.length c2, .slice A3 Fo.length c3, .bool b], .int .i64 s] w fun e w' => e = .returned (.int .i64 (checkC L F La Fo s : Nat)) ∧ Below w.heap.size w w' := by
 obtain ⟨k, hk⟩ := (doc_check_ev L F La Fo b s (C_bound h.a0.1) (C_bound h.a3.1) (C_bound h.a1.1) (C_bound h.a2.1) (rows_bnd h.a0.1) (rows_bnd h.a3.1)).rounds
 exact caesuraref11_Check.calls k A0 c0 L A1 c1 F A2 c2 La A3 c3 Fo b s _ w h.a0.1 h.a0.2 h.a1.1 h.a1.2 h.a2.1 h.a2.2 h.a3.1 h.a3.2 hk
theorem dmatch_c (h : Cs A0 c0 L A1 c1 F A2 c2 La A3 c3 Fo w) (hl : L.length ≤ 5864062014634) (b : Bool) (h4 : Kd.C kI w A4 word.length word) (h5 : word.length ≤ c4) :
  Calls Tryd.prog 30 #[.agg #[.slice A0 L.length c0, .slice A1 F.length c1, .slice A2 La.length c2, .slice A3 Fo.length c3, .bool b], .slice A4 word.length c4] w fun e w' => e = .returned (.bool (matchB L F La Fo b word)) ∧ Below w.heap.size w w' := by
 obtain ⟨k, hk⟩ := (doc_match_ev L F La Fo b word hl (C_bound h.a3.1) (C_bound h.a1.1) (C_bound h.a2.1) (rows_bnd h.a3.1) (rows_bnd h.a0.1) (C_bound h4)).rounds
 exact caesuraref11_Match.calls k A0 c0 L A1 c1 F A2 c2 La A3 c3 Fo b A4 c4 word _ w h.a0.1 h.a0.2 h.a1.1 h.a1.2 h.a2.1 h.a2.2 h.a3.1 h.a3.2 h4 h5 hk
theorem pcheck_c {a0 a1 a2 : Addr} (h : Cs A0 c0 L A1 c1 F A2 c2 La A3 c3 Fo w) (hS : Sen a0 a1 a2 w) (b : Bool) (s : Int) :
  Calls Tryd.prog 22 #[.agg #[.slice A0 L.length c0, .slice A1 F.length c1, .slice A2 La.length c2, .slice A3 Fo.length c3, .bool b], .int .i64 s] w fun e w' => e = .returned (errMA (errV a2) (errV a0) (checkC L F La Fo s)) ∧ Below w.heap.size w w' :=
 check_calls A0 c0 L A1 c1 F A2 c2 La A3 c3 Fo b s (errV a2) (errV a0) w h.a0 h.a1 h.a2 h.a3 hS.h2 hS.h0
theorem pmatch_c (h : Cs A0 c0 L A1 c1 F A2 c2 La A3 c3 Fo w) (hp : PB L F La Fo) (b : Bool) (h4 : Kd.C kI w A4 word.length word) :
  Calls Tryd.prog 23 #[.agg #[.slice A0 L.length c0, .slice A1 F.length c1, .slice A2 La.length c2, .slice A3 Fo.length c3, .bool b], .slice A4 word.length c4] w fun e w' => e = .returned (.bool (matchB L F La Fo b word)) ∧ Below w.heap.size w w' :=
 match_calls A0 c0 L A1 c1 F A2 c2 La A3 c3 Fo b A4 c4 word w h.a0 h.a1 h.a2 h.a3 h4 hp.fo hp.l
theorem same_c (h : Cs A0 c0 L A1 c1 F A2 c2 La A3 c3 Fo w) (h' : Cs B0 d0 L B1 d1 F B2 d2 La B3 d3 Fo w) (b : Bool) :
  Calls Tryd.prog 25 #[.agg #[.slice A0 L.length c0, .slice A1 F.length c1, .slice A2 La.length c2, .slice A3 Fo.length c3, .bool b], .agg #[.slice B0 L.length d0, .slice B1 F.length d1, .slice B2 La.length d2, .slice B3 Fo.length d3, .bool b]] w fun e w' => e = .returned (.bool true) ∧ Below w.heap.size w w' := by
 obtain ⟨k, hk⟩ := (same_ev L F La Fo b (C_bound h.a0.1) (rows_bnd h.a0.1) (C_bound h.a1.1) (C_bound h.a2.1) (C_bound h.a3.1) (rows_bnd h.a3.1)).rounds
 exact caesuraref0_SamePositions.calls k A0 c0 L A1 c1 F A2 c2 La A3 c3 Fo b B0 d0 L B1 d1 F B2 d2 La B3 d3 Fo b true w h.a0.1 h.a0.2 h.a1.1 h.a1.2 h.a2.1 h.a2.2 h.a3.1 h.a3.2 h'.a0.1 h'.a0.2 h'.a1.1 h'.a1.2 h'.a2.1 h'.a2.2 h'.a3.1 h'.a3.2 hk
theorem ints_c {X : List Int} {c5 : Nat} {A5 : Option Addr} (h4 : Kd.C kI w A4 X.length X) (hc4 : X.length ≤ c4) (h5 : Kd.C kI w A5 X.length X) (hc5 : X.length ≤ c5) :
  Calls Tryd.prog 16 #[.slice A4 X.length c4, .slice A5 X.length c5] w fun e w' => e = .returned (.bool true) ∧ Below w.heap.size w w' := by
 obtain ⟨k, hk⟩ := (sameInts_ev X (C_bound h4)).rounds
 refine (caesuraref0_SameInts.calls k A4 c4 X A5 c5 X true w h4 hc4 h5 hc5 hk).mono ?_
 rintro e w1 ⟨rfl, ⟨⟨n, rfl⟩⟩⟩
 exact ⟨rfl, pw_below_drewN (Below.refl _ _) n⟩
end
/-- what is turned round -/
def rv0 (L : LL) (F La : List Int) (Fo : LL) : LL := if revOk L F La Fo then L else []
def rv1 (L : LL) (F La : List Int) (Fo : LL) : List Int := if revOk L F La Fo then La else []
def rv2 (L : LL) (F La : List Int) (Fo : LL) : List Int := if revOk L F La Fo then F else []
def rv3 (L : LL) (F La : List Int) (Fo : LL) : LL := if revOk L F La Fo then turnK Fo L.length L.length else []
def rvb (L : LL) (F La : List Int) (Fo : LL) (b : Bool) : Bool := revOk L F La Fo && b
/-- positions of their own, made from a place of memory on -/
structure Rv (n : Nat) (E0 : Option Addr) (e0 : Nat) (X0 : LL) (E1 : Option Addr) (e1 : Nat) (X1 : List Int) (E2 : Option Addr) (e2 : Nat) (X2 : List Int) (E3 : Option Addr) (e3 : Nat) (X3 : LL) (W : World) : Prop where
 r0 : Kd.R kL 25 W n (fun _ => True) (.slice E0 X0.length e0) X0
 r1 : Kd.R kI 3 W n (fun _ => True) (.slice E1 X1.length e1) X1
 r2 : Kd.R kI 3 W n (fun _ => True) (.slice E2 X2.length e2) X2
 r3 : Kd.R kL 25 W n (fun _ => True) (.slice E3 X3.length e3) X3
section
variable {n : Nat} {E0 E1 E2 E3 : Option Addr} {e0 e1 e2 e3 : Nat} {X0 : LL} {X1 X2 : List Int} {X3 : LL} {W W' : World}
theorem Rv.move (h : Rv n E0 e0 X0 E1 e1 X1 E2 e2 X2 E3 e3 X3 W) (hm : ∀ k, n ≤ k → k < W.heap.size → W'.heap[k]? = W.heap[k]?) : Rv n E0 e0 X0 E1 e1 X1 E2 e2 X2 E3 e3 X3 W' :=
 ⟨Kd.R_mono (Kd.R_move (Kd.R_bound h.r0) (fun k hk => hm k hk.2.1 hk.2.2.1)) (fun _ _ => trivial), Kd.R_mono (Kd.R_move (Kd.R_bound h.r1) (fun k hk => hm k hk.2.1 hk.2.2.1)) (fun _ _ => trivial), Kd.R_mono (Kd.R_move (Kd.R_bound h.r2) (fun k hk => hm k hk.2.1 hk.2.2.1)) (fun _ _ => trivial), Kd.R_mono (Kd.R_move (Kd.R_bound h.r3) (fun k hk => hm k hk.2.1 hk.2.2.1)) (fun _ _ => trivial)⟩
theorem Rv.step (h : Rv n E0 e0 X0 E1 e1 X1 E2 e2 X2 E3 e3 X3 W) (hb : Below W.heap.size W W') : Rv n E0 e0 X0 E1 e1 X1 E2 e2 X2 E3 e3 X3 W' := h.move (fun k _ hk => hb.block k hk)
theorem Rv.cs (h : Rv n E0 e0 X0 E1 e1 X1 E2 e2 X2 E3 e3 X3 W) : Cs E0 e0 X0 E1 e1 X1 E2 e2 X2 E3 e3 X3 W := by
 obtain ⟨_, l0, k0⟩ := Kd.R_reads' h.r0
 obtain ⟨_, l1, k1⟩ := Kd.R_reads' h.r1
 obtain ⟨_, l2, k2⟩ := Kd.R_reads' h.r2
 obtain ⟨_, l3, k3⟩ := Kd.R_reads' h.r3
 exact ⟨⟨k0, l0⟩, ⟨k1, l1⟩, ⟨k2, l2⟩, ⟨k3, l3⟩⟩
end
/-- what Reverse answers -/
def rvPost (L : LL) (F La : List Int) (Fo : LL) (b : Bool) (w : World) : Ending → World → Prop := fun e w' =>
 ∃ E0 e0 E1 e1 E2 e2 E3 e3, e = .returned (.agg #[.slice E0 (rv0 L F La Fo).length e0, .slice E1 (rv1 L F La Fo).length e1, .slice E2 (rv2 L F La Fo).length e2, .slice E3 (rv3 L F La Fo).length e3, .bool (rvb L F La Fo b)]) ∧
  Rv w.heap.size E0 e0 (rv0 L F La Fo) E1 e1 (rv1 L F La Fo) E2 e2 (rv2 L F La Fo) E3 e3 (rv3 L F La Fo) w' ∧ Below w.heap.size w w'
theorem rv_of {L : LL} {F La : List Int} {Fo : LL} {b : Bool} {w : World} (e : Ending) (w' : World) (h : revPost L F La Fo b w e w') : rvPost L F La Fo b w e w' := by
 obtain ⟨v0, v1, v2, v3, rfl, k0, k1, k2, k3, hb⟩ := h
 obtain ⟨E0, e0, rfl⟩ := Kd.R_slice k0
 obtain ⟨E1, e1, rfl⟩ := Kd.R_slice k1
 obtain ⟨E2, e2, rfl⟩ := Kd.R_slice k2
 obtain ⟨E3, e3, rfl⟩ := Kd.R_slice k3
 exact ⟨E0, e0, E1, e1, E2, e2, E3, e3, rfl, ⟨k0, k1, k2, k3⟩, hb⟩
section
variable {A0 A1 A2 A3 : Option Addr} {c0 c1 c2 c3 : Nat} {L : LL} {F La : List Int} {Fo : LL} {w : World}
theorem prev_c (h : Cs A0 c0 L A1 c1 F A2 c2 La A3 c3 Fo w) (hp : PB L F La Fo) (b : Bool) :
  Calls Tryd.prog 24 #[.agg #[.slice A0 L.length c0, .slice A1 F.length c1, .slice A2 La.length c2, .slice A3 Fo.length c3, .bool b]] w (rvPost L F La Fo b w) :=
 (reverse_calls A0 c0 L A1 c1 F A2 c2 La A3 c3 Fo b w h.a0 h.a1 h.a2 h.a3 hp.fo hp.l hp.f hp.la hp.lr).mono rv_of
theorem drev_c (h : Cs A0 c0 L A1 c1 F A2 c2 La A3 c3 Fo w) (hp : PB L F La Fo) (b : Bool) :
  Calls Tryd.prog 26 #[.agg #[.slice A0 L.length c0, .slice A1 F.length c1, .slice A2 La.length c2, .slice A3 Fo.length c3, .bool b]] w (rvPost L F La Fo b w) :=
 (doc_reverse_calls A0 c0 L A1 c1 F A2 c2 La A3 c3 Fo b w h.a0 h.a1 h.a2 h.a3 hp.fo hp.l hp.f hp.la hp.lr hp.fr).mono rv_of
theorem lent_c (h : Cs A0 c0 L A1 c1 F A2 c2 La A3 c3 Fo w) (hp : PB L F La Fo) (b : Bool) :
  Calls Tryd.prog 20 #[.agg #[.slice A0 L.length c0, .slice A1 F.length c1, .slice A2 La.length c2, .slice A3 Fo.length c3, .bool b]] w (lentPost L F La Fo b w) :=
 lent_calls A0 c0 L A1 c1 F A2 c2 La A3 c3 Fo b w h.a0 h.a1 h.a2 h.a3 hp.fo hp.l hp.f hp.la hp.lr hp.fr
end
end Go.Proofs.YtfonajakaimnoaaDoor.C11

/- caesuralaw11.reads: its walk. -/
namespace Go.Proofs.YtfonajakaimnoaaDoor.C11
open Go.RowKit Go.Proofs.YtfonajakaimnoaaDoorW.PrintWords Go.Proofs.YtfonajakaimnoaaDoorW.PrintLast Go.Proofs.YtfonajakaimnoaaDoorW.PrintMore Go.Proofs.YtfonajakaimnoaaDoor.Lib Lent Go.Proofs.YtfonajakaimnoaaDoor.Fn Go.Proofs.YtfonajakaimnoaaDoor.Lend
set_option linter.unusedVariables false
set_option linter.unusedSimpArgs false
attribute [local go_sem] max2_int min2_int max_two min_two max_three min_three max_four min_four

def rds.T6 : Bool × List (List Nat × List Nat) := (true, [([], []), ([0], [0]), ([], []), ([1, 2, 1], [1, 2]), ([3, 3, 0, 1, 2, 3], [3])])
def rds.B6 : List Nat := [0, 1, 0, 7, 15]
theorem rds.tab6 : rtab .any (opsOf Tryd.f32 6) = rds.T6 := by kernel_rfl
theorem rds.bits6 : waitsOk rds.T6.2 rds.B6 = true := by kernel_rfl

/-- positions that lie in a block -/
structure Bx (w : World) (s : Nat) (V0 V1 V2 V3 : Value) (b : Bool) (W : World) : Prop where
 below : Below w.heap.size w W
 old : W.heap[s]? = some (.cells #[V0, V1, V2, V3, .bool b] 42 (0, 0))
theorem Bx.step {w : World} {s : Nat} {V0 V1 V2 V3 : Value} {b : Bool} {W W' : World} (h : Bx w s V0 V1 V2 V3 b W) (hb : Below W.heap.size W W') : Bx w s V0 V1 V2 V3 b W' :=
 ⟨below_step h.below hb, (hb.block _ (blk_lt h.old)).trans h.old⟩
theorem Bx.held {w : World} {s : Nat} {V0 V1 V2 V3 : Value} {b : Bool} {W : World} (h : Bx w s V0 V1 V2 V3 b W) :
  W.cell? ⟨s, 0, none⟩ = some V0 ∧ W.cell? ⟨s, 1, none⟩ = some V1 ∧ W.cell? ⟨s, 2, none⟩ = some V2 ∧ W.cell? ⟨s, 3, none⟩ = some V3 ∧ W.cell? ⟨s, 4, none⟩ = some (.bool b) :=
 ⟨(blk_cell h.old 0).trans rfl, (blk_cell h.old 1).trans rfl, (blk_cell h.old 2).trans rfl, (blk_cell h.old 3).trans rfl, (blk_cell h.old 4).trans rfl⟩
theorem held2 {w w0 : World} {s q : Nat} {V0 V1 V2 V3 U0 U1 U2 U3 : Value} {b ub : Bool} {W : World} (h : Bx w s V0 V1 V2 V3 b W) (h' : Bx w0 q U0 U1 U2 U3 ub W) :
  W.cell? ⟨s, 0, none⟩ = some V0 ∧ W.cell? ⟨s, 1, none⟩ = some V1 ∧ W.cell? ⟨s, 2, none⟩ = some V2 ∧ W.cell? ⟨s, 3, none⟩ = some V3 ∧ W.cell? ⟨s, 4, none⟩ = some (.bool b) ∧ W.cell? ⟨q, 0, none⟩ = some U0 ∧ W.cell? ⟨q, 1, none⟩ = some U1 ∧ W.cell? ⟨q, 2, none⟩ = some U2 ∧ W.cell? ⟨q, 3, none⟩ = some U3 ∧ W.cell? ⟨q, 4, none⟩ = some (.bool ub) :=
 ⟨h.held.1, h.held.2.1, h.held.2.2.1, h.held.2.2.2.1, h.held.2.2.2.2, h'.held⟩
set_option maxHeartbeats 4000000 in
set_option maxRecDepth 100000 in
theorem reads_c {a0 a1 a2 : Addr} {A0 A1 A2 A3 A4 : Option Addr} {c0 c1 c2 c3 c4 : Nat} {L : LL} {F La : List Int} {Fo : LL} {word : List Int} {w : World} (h : Cs A0 c0 L A1 c1 F A2 c2 La A3 c3 Fo w) (hp : PB L F La Fo) (hS : Sen a0 a1 a2 w) (b : Bool) (s : Int) (h4 : Kd.C kI w A4 word.length word) (h5 : word.length ≤ c4) :
  Calls Tryd.prog 32 #[.agg #[.slice A0 L.length c0, .slice A1 F.length c1, .slice A2 La.length c2, .slice A3 Fo.length c3, .bool b], .int .i64 s, .slice A4 word.length c4] w fun e w' => e = .returned (.bool true) ∧ Below w.heap.size w w' := by
 have hu := Tryd.underlying42
 have H := Aside0.mk h
 have HP := Aside0.mk hp
 have HS := Aside0.mk hS
 have H4 := Aside0.mk (And.intro h4 h5)
 obtain ⟨c, hc⟩ : ∃ c, checkC L F La Fo s = c := ⟨_, rfl⟩
 obtain ⟨m, hm⟩ : ∃ m, matchB L F La Fo b word = m := ⟨_, rfl⟩
 have HC : Aside0 (checkC L F La Fo s = c ∧ matchB L F La Fo b word = m ∧ (c = 0 ∨ c = 1 ∨ c = 3)) := ⟨⟨hc, hm, by rw [← hc]; exact checkC_cases _ _ _ _ _⟩⟩
 clear h hp hS h4 h5 hc hm
 go_enter Tryd.func32, Tryd.ntmps32
 have HB : Aside0 (Bx w w.heap.size (.slice A0 L.length c0) (.slice A1 F.length c1) (.slice A2 La.length c2) (.slice A3 Fo.length c3) b (w.alloc (.cells #[.slice A0 L.length c0, .slice A1 F.length c1, .slice A2 La.length c2, .slice A3 Fo.length c3, .bool b] 42))) := ⟨below_alloc (Below.refl _ _) _, heap_alloc_new _ _⟩
 go_wp2_with fail
 refine (dcheck_c (H.out.below HB.out.below) b s).mono ?_
 rintro e w1 ⟨rfl, hb⟩
 rw [HC.out.1]
 replace HB := Aside0.mk (HB.out.step hb)
 clear hb
 obtain ⟨f0, f1, f2, f3, f4⟩ := HB.out.held
 go_wp2_with fail
 refine (dmatch_c (H.out.below HB.out.below) HP.out.l b (Kd.C_below H4.out.1 HB.out.below) H4.out.2).mono ?_
 rintro e w2 ⟨rfl, hb⟩
 rw [HC.out.2.1]
 replace HB := Aside0.mk (HB.out.step hb)
 clear hb f0 f1 f2 f3 f4
 obtain ⟨f0, f1, f2, f3, f4⟩ := HB.out.held
 go_wp2_with fail
 refine (drev_c (H.out.below HB.out.below) HP.out b).mono ?_
 rintro e w3 ⟨E0, e0, E1, e1, E2, e2, E3, e3, rfl, hR, hb⟩
 replace HB := Aside0.mk (HB.out.step hb)
 have HR := Aside0.mk hR
 clear hb hR f0 f1 f2 f3 f4
 obtain ⟨X0, hX0⟩ : ∃ X, rv0 L F La Fo = X := ⟨_, rfl⟩
 obtain ⟨X1, hX1⟩ : ∃ X, rv1 L F La Fo = X := ⟨_, rfl⟩
 obtain ⟨X2, hX2⟩ : ∃ X, rv2 L F La Fo = X := ⟨_, rfl⟩
 obtain ⟨X3, hX3⟩ : ∃ X, rv3 L F La Fo = X := ⟨_, rfl⟩
 obtain ⟨xb, hXb⟩ : ∃ X, rvb L F La Fo b = X := ⟨_, rfl⟩
 rw [hX0, hX1, hX2, hX3] at HR
 rw [hX0, hX1, hX2, hX3, hXb]
 have HX := Aside0.mk (And.intro hX0 (And.intro hX1 (And.intro hX2 (And.intro hX3 hXb))))
 clear hX0 hX1 hX2 hX3 hXb
 go_upto_region 4 with fail
 have HQ : Aside0 (Bx w3 w3.heap.size (.slice E0 X0.length e0) (.slice E1 X1.length e1) (.slice E2 X2.length e2) (.slice E3 X3.length e3) xb (w3.alloc (.cells #[.slice E0 X0.length e0, .slice E1 X1.length e1, .slice E2 X2.length e2, .slice E3 X3.length e3, .bool xb] 42))) := ⟨below_alloc (Below.refl _ _) _, heap_alloc_new _ _⟩
 replace HB := Aside0.mk (HB.out.step HQ.out.below)
 replace HR := Aside0.mk (HR.out.step HQ.out.below)
 obtain ⟨q, hq⟩ : ∃ q, q = w3.heap.size := ⟨_, rfl⟩
 rw [← hq] at HQ ⊢
 clear hq
 generalize World.alloc _ _ = w4 at HB HQ HR ⊢
 obtain ⟨f0, f1, f2, f3, f4⟩ := HB.out.held
 go_wp2_with fail
 refine (pcheck_c (H.out.below HB.out.below) (HS.out.step HB.out.below) b s).mono ?_
 rintro e w5 ⟨rfl, hb⟩
 rw [HC.out.1]
 replace HB := Aside0.mk (HB.out.step hb)
 replace HQ := Aside0.mk (HQ.out.step hb)
 replace HR := Aside0.mk (HR.out.step hb)
 clear hb f0 f1 f2 f3 f4
 obtain ⟨f0, f1, f2, f3, f4⟩ := HB.out.held
 obtain ⟨er, her⟩ : ∃ v, errMA (errV a2) (errV a0) c = v := ⟨_, rfl⟩
 rw [her]
 have HE := Aside0.mk her
 clear her
 go_wp2_with fail
 refine (pmatch_c (H.out.below HB.out.below) HP.out b (Kd.C_below H4.out.1 HB.out.below)).mono ?_
 rintro e w6 ⟨rfl, hb⟩
 rw [HC.out.2.1]
 replace HB := Aside0.mk (HB.out.step hb)
 replace HQ := Aside0.mk (HQ.out.step hb)
 replace HR := Aside0.mk (HR.out.step hb)
 clear hb f0 f1 f2 f3 f4
 go_upto_region 6 with fail
 replace HB := Aside0.mk (HB.out.step (below_drew (Below.refl _ w6)))
 replace HQ := Aside0.mk (HQ.out.step (below_drew (Below.refl _ w6)))
 replace HR := Aside0.mk (HR.out.step (below_drew (Below.refl _ w6)))
 refine start_ (n := 5) (S := fun w' => w'.cell? ⟨w.heap.size, 0, none⟩ = some (.slice A0 L.length c0) ∧ w'.cell? ⟨w.heap.size, 1, none⟩ = some (.slice A1 F.length c1) ∧ w'.cell? ⟨w.heap.size, 2, none⟩ = some (.slice A2 La.length c2) ∧ w'.cell? ⟨w.heap.size, 3, none⟩ = some (.slice A3 Fo.length c3) ∧ w'.cell? ⟨w.heap.size, 4, none⟩ = some (.bool b) ∧ w'.cell? ⟨q, 0, none⟩ = some (.slice E0 X0.length e0) ∧ w'.cell? ⟨q, 1, none⟩ = some (.slice E1 X1.length e1) ∧ w'.cell? ⟨q, 2, none⟩ = some (.slice E2 X2.length e2) ∧ w'.cell? ⟨q, 3, none⟩ = some (.slice E3 X3.length e3) ∧ w'.cell? ⟨q, 4, none⟩ = some (.bool xb)) (ds := [4]) #[false, false, false, false, false] (by kernel_rfl) rfl rfl (held2 HB.out HQ.out) (fun hHeld => ?_)
 refine with_tabW rds.tab6 rds.bits6 (fun HT_ HW_ => ?_)
 generalize w6.drew = wn at HB HQ HR hHeld ⊢
 refine take_ (i := 0) (N := some 27) (v := ?_) (a' := ?_) #[true, false, false, false, false] rfl rfl (take_ofW HT_.out HW_.out (by kernel_rfl)) (fun _ _ _ h => h) (Or.inl ⟨by rfl, ?_⟩) hHeld ?_ ?_
 rotate_left
 ·rintro w' ⟨s0, s1, s2, s3, s4, s5, s6, s7, s8, s9⟩
  go_simp
  with_reducible rfl
 rotate_left
 ·simp only [Act.put, List.setIfInBounds_toArray, List.set_cons_zero, List.set_cons_succ, i64_w, i32_w]
  rfl
 refine take_ (i := 2) (N := some 29) (v := ?_) (a' := ?_) #[true, false, true, false, false] rfl rfl (take_ofW HT_.out HW_.out (by kernel_rfl)) (fun _ _ _ h => h) (Or.inl ⟨by rfl, ?_⟩) hHeld ?_ ?_
 rotate_left
 ·rintro w' ⟨s0, s1, s2, s3, s4, s5, s6, s7, s8, s9⟩
  go_simp
  with_reducible rfl
 rotate_left
 ·simp only [Act.put, List.setIfInBounds_toArray, List.set_cons_zero, List.set_cons_succ, i64_w, i32_w]
  rfl
 refine one_ (i := 1) (N := some 28) #[true, true, true, false, false] rfl rfl (one_of HT_.out (by kernel_rfl)) (by decide) (fun K hK => ?_)
 refine goes_ Tryd.func24 (by kernel_rfl) rfl #[.agg #[.slice A0 L.length c0, .slice A1 F.length c1, .slice A2 La.length c2, .slice A3 Fo.length c3, .bool b]] (by rfl) rfl rfl (by (try simp only [List.map_toArray, List.map_cons, List.map_nil]); first | done | rfl) ?_
 refine (prev_c (H.out.below HB.out.below) HP.out b).mono ?_
 rintro e wm ⟨Z0, z0, Z1, z1, Z2, z2, Z3, z3, rfl, hR2, hb⟩
 refine ⟨_, rfl, ?_⟩
 rw [HX.out.1, HX.out.2.1, HX.out.2.2.1, HX.out.2.2.2.1] at hR2
 rw [HX.out.1, HX.out.2.1, HX.out.2.2.1, HX.out.2.2.2.1, HX.out.2.2.2.2]
 have HZ := Aside0.mk hR2.cs
 clear hR2
 replace HQ := Aside0.mk (HQ.out.step hb)
 replace HR := Aside0.mk (HR.out.step hb)
 replace HB := Aside0.mk (HB.out.step hb)
 obtain ⟨wn, rfl⟩ : ∃ wn, wn = wm := ⟨_, rfl⟩
 refine hK.out _ _ (held2 HB.out HQ.out) (fun hHeld => ?_)
 clear hK K hb
 refine norm_ (a' := ?_) ?_ ?_
 rotate_left
 ·show Act.put _ (some 28) _ = _
  simp only [Act.put, List.setIfInBounds_toArray, List.set_cons_zero, List.set_cons_succ, i64_w, i32_w]
  rfl
 refine one_ (i := 3) (N := some 30) #[true, true, true, true, false] rfl rfl (one_of HT_.out (by kernel_rfl)) (by decide) (fun K hK => ?_)
 refine goes_ Tryd.func25 (by kernel_rfl) rfl #[.agg #[.slice Z0 X0.length z0, .slice Z1 X1.length z1, .slice Z2 X2.length z2, .slice Z3 X3.length z3, .bool xb], .agg #[.slice E0 X0.length e0, .slice E1 X1.length e1, .slice E2 X2.length e2, .slice E3 X3.length e3, .bool xb]] (by rfl) rfl rfl (by (try simp only [List.map_toArray, List.map_cons, List.map_nil]); first | done | rfl) ?_
 refine (same_c HZ.out HR.out.cs xb).mono ?_
 rintro e wm ⟨rfl, hb⟩
 refine ⟨_, rfl, ?_⟩
 replace HQ := Aside0.mk (HQ.out.step hb)
 replace HB := Aside0.mk (HB.out.step hb)
 obtain ⟨wn, rfl⟩ : ∃ wn, wn = wm := ⟨_, rfl⟩
 refine hK.out _ _ (held2 HB.out HQ.out) (fun hHeld => ?_)
 clear hK K hb
 refine norm_ (a' := ?_) ?_ ?_
 rotate_left
 ·show Act.put _ (some 30) _ = _
  simp only [Act.put, List.setIfInBounds_toArray, List.set_cons_zero, List.set_cons_succ, i64_w, i32_w]
  rfl
 refine pure_ (i := 4) (N := some 12) (v := ?_) (a' := ?_) #[true, true, true, true, true] rfl rfl (any_of HT_.out (by kernel_rfl)) (fun _ _ _ h => h) (Or.inl ⟨by rfl, ?_⟩) ?_ ?_
 rotate_left
 ·intro w'
  go_simp
  with_reducible rfl
 rotate_left
 ·simp only [Act.put, List.setIfInBounds_toArray, List.set_cons_zero, List.set_cons_succ, i64_w, i32_w]
  rfl
 refine done_ (done_of HT_.out (by kernel_rfl)) ?_
 have hcc := HC.out.2.2
 have hnum := num_calls wn (HS.out.step HB.out.below) c hcc
 rw [HE.out] at hnum
 have HNum := Aside0.mk hnum
 clear hnum hcc hHeld
 go_wp2_with fail
 refine HNum.out.mono ?_
 rintro e w8 ⟨rfl, hb⟩
 replace HB := Aside0.mk (HB.out.step hb)
 clear hb
 go_wp2_with fail
 go_ret
 exact ⟨rfl, HB.out.below⟩
end Go.Proofs.YtfonajakaimnoaaDoor.C11

/- caesuralaw11.PlacesReads: its walk. -/
namespace Go.Proofs.YtfonajakaimnoaaDoor.C11
open Go.RowKit Go.Proofs.YtfonajakaimnoaaDoorW.PrintWords Go.Proofs.YtfonajakaimnoaaDoorW.PrintLast Go.Proofs.YtfonajakaimnoaaDoorW.PrintMore Go.Proofs.YtfonajakaimnoaaDoor.Lib Lent Go.Proofs.YtfonajakaimnoaaDoor.Fn Go.Proofs.YtfonajakaimnoaaDoor.Lend
set_option linter.unusedVariables false
set_option linter.unusedSimpArgs false
attribute [local go_sem] max2_int min2_int max_two min_two max_three min_three max_four min_four

def plr.T7 : Bool × List (List Nat × List Nat) := (true, [([], []), ([], []), ([1], [1]), ([2], [2]), ([0, 3, 3], [0, 3]), ([4, 4, 0, 1, 2, 3, 4], [4])])
def plr.B7 : List Nat := [0, 0, 2, 6, 15, 31]
theorem plr.tab7 : rtab .any (opsOf Tryd.f4 7) = plr.T7 := by kernel_rfl
theorem plr.bits7 : waitsOk plr.T7.2 plr.B7 = true := by kernel_rfl
def plr.T10 : Bool × List (List Nat × List Nat) := (true, [([], []), ([0], [0]), ([], []), ([2], [2]), ([], []), ([4], [4]), ([3, 5, 1], [3, 5]), ([1, 6], [1, 6]), ([7, 6], [7]), ([8], [8]), ([8], [8]), ([10, 8], [8, 10]), ([8], [8]), ([12, 8], [8, 12]), ([11, 13, 8, 8], [8, 11, 13]), ([9, 14, 8], [8, 9, 14]), ([8, 15], [8, 15]), ([16, 14], [16]), ([17], [17]), ([18, 17], [17, 18]), ([17, 19], [17, 19]), ([20, 17], [20]), ([21], [21]), ([22, 21], [21, 22]), ([21, 23], [21, 23]), ([24, 21], [24]), ([25], [25]), ([26, 25], [25, 26]), ([25, 27], [25, 27])])
def plr.B10 : List Nat := [0, 1, 0, 4, 0, 16, 63, 127, 255, 511, 511, 1535, 511, 4607, 15871, 32767, 65535, 131071, 262143, 524287, 1048575, 2097151, 4194303, 8388607, 16777215, 33554431, 67108863, 134217727, 268435455]
theorem plr.tab10 : rtab .any (opsOf Tryd.f4 10) = plr.T10 := by kernel_rfl
theorem plr.bits10 : waitsOk plr.T10.2 plr.B10 = true := by kernel_rfl
def plr.T17 : Bool × List (List Nat × List Nat) := (true, [([], []), ([], []), ([1], [1]), ([2], [2]), ([0, 3, 3], [0, 3]), ([4, 4, 0, 1, 2, 3, 4], [4])])
def plr.B17 : List Nat := [0, 0, 2, 6, 15, 31]
theorem plr.tab17 : rtab .any (opsOf Tryd.f4 17) = plr.T17 := by kernel_rfl
theorem plr.bits17 : waitsOk plr.T17.2 plr.B17 = true := by kernel_rfl

/-- behind the lending: what was handed in, and the positions that were lent -/
structure S1 (w : World) (bp : Nat) (A0 : Option Addr) (c0 : Nat) (L : LL) (A1 : Option Addr) (c1 : Nat) (F : List Int) (A2 : Option Addr) (c2 : Nat) (La : List Int) (A3 : Option Addr) (c3 : Nat) (Fo : LL) (b : Bool) (sy : Int) (A4 : Option Addr) (c4 : Nat) (wd : List Int)
  (h0 h1 h2 h3 h4 : Nat) (B0 B1 B2 B3 : Option Addr) (d0 d1 d2 d3 : Nat) (L' : LL) (F' La' : List Int) (Fo' : LL) (W : World) : Prop where
 below : Below w.heap.size w W
 hx : W.heap[w.heap.size]? = some (.cells #[.slice A0 L.length c0, .slice A1 F.length c1, .slice A2 La.length c2, .slice A3 Fo.length c3, .bool b, .int .i64 sy, .slice A4 wd.length c4] 44 (0, 0))
 lp : LP (w.heap.size + 1) h0 h1 h2 h3 h4 B0 B1 B2 B3 d0 d1 d2 d3 L' F' La' Fo' W
 hp : W.heap[bp]? = some (.cells #[.slice B0 L.length d0, .slice B1 F.length d1, .slice B2 La.length d2, .slice B3 Fo.length d3, .bool b] 42 (0, 0))
 bph : h4 ≤ bp
/-- .. and the word -/
structure S2 (w : World) (bp : Nat) (A0 : Option Addr) (c0 : Nat) (L : LL) (A1 : Option Addr) (c1 : Nat) (F : List Int) (A2 : Option Addr) (c2 : Nat) (La : List Int) (A3 : Option Addr) (c3 : Nat) (Fo : LL) (b : Bool) (sy : Int) (A4 : Option Addr) (c4 : Nat) (wd : List Int)
  (h0 h1 h2 h3 h4 : Nat) (B0 B1 B2 B3 : Option Addr) (d0 d1 d2 d3 : Nat) (L' : LL) (F' La' : List Int) (Fo' : LL) (g0 g1 : Nat) (W4 : Option Addr) (q4 : Nat) (ws : List Int) (W : World) : Prop where
 s1 : S1 w bp A0 c0 L A1 c1 F A2 c2 La A3 c3 Fo b sy A4 c4 wd h0 h1 h2 h3 h4 B0 B1 B2 B3 d0 d1 d2 d3 L' F' La' Fo' W
 w0 : Kd.R kI 3 W (w.heap.size + 1) (rng g0 g1) (.slice W4 (marks ws).length q4) (marks ws)
 g : bp < g0
 gg : g0 ≤ g1
 g1W : g1 ≤ W.heap.size
/-- .. and the positions turned round -/
structure S3 (w : World) (bp : Nat) (A0 : Option Addr) (c0 : Nat) (L : LL) (A1 : Option Addr) (c1 : Nat) (F : List Int) (A2 : Option Addr) (c2 : Nat) (La : List Int) (A3 : Option Addr) (c3 : Nat) (Fo : LL) (b : Bool) (sy : Int) (A4 : Option Addr) (c4 : Nat) (wd : List Int)
  (h0 h1 h2 h3 h4 : Nat) (B0 B1 B2 B3 : Option Addr) (d0 d1 d2 d3 : Nat) (L' : LL) (F' La' : List Int) (Fo' : LL) (g0 g1 : Nat) (W4 : Option Addr) (q4 : Nat) (ws : List Int)
  (n br : Nat) (E0 : Option Addr) (e0 : Nat) (X0 : LL) (E1 : Option Addr) (e1 : Nat) (X1 : List Int) (E2 : Option Addr) (e2 : Nat) (X2 : List Int) (E3 : Option Addr) (e3 : Nat) (X3 : LL) (xb : Bool) (W : World) : Prop where
 s2 : S2 w bp A0 c0 L A1 c1 F A2 c2 La A3 c3 Fo b sy A4 c4 wd h0 h1 h2 h3 h4 B0 B1 B2 B3 d0 d1 d2 d3 L' F' La' Fo' g0 g1 W4 q4 ws W
 rv : Rv n E0 e0 X0 E1 e1 X1 E2 e2 X2 E3 e3 X3 W
 hr : W.heap[br]? = some (.cells #[.slice E0 X0.length e0, .slice E1 X1.length e1, .slice E2 X2.length e2, .slice E3 X3.length e3, .bool xb] 42 (0, 0))
 gn : g1 ≤ n
 nb : n ≤ br
section
variable {w : World} {bp : Nat} {A0 A1 A2 A3 A4 B0 B1 B2 B3 W4 E0 E1 E2 E3 : Option Addr} {c0 c1 c2 c3 c4 d0 d1 d2 d3 q4 e0 e1 e2 e3 h0 h1 h2 h3 h4 g0 g1 n br : Nat} {L Fo L' Fo' X0 X3 : LL} {F La F' La' wd ws X1 X2 : List Int} {b xb : Bool} {sy : Int} {W W' : World}
theorem S1.step (h : S1 w bp A0 c0 L A1 c1 F A2 c2 La A3 c3 Fo b sy A4 c4 wd h0 h1 h2 h3 h4 B0 B1 B2 B3 d0 d1 d2 d3 L' F' La' Fo' W) (hb : Below W.heap.size W W') : S1 w bp A0 c0 L A1 c1 F A2 c2 La A3 c3 Fo b sy A4 c4 wd h0 h1 h2 h3 h4 B0 B1 B2 B3 d0 d1 d2 d3 L' F' La' Fo' W' :=
 ⟨below_step h.below hb, (hb.block _ (blk_lt h.hx)).trans h.hx, h.lp.step hb, (hb.block _ (blk_lt h.hp)).trans h.hp, h.bph⟩
theorem S2.step (h : S2 w bp A0 c0 L A1 c1 F A2 c2 La A3 c3 Fo b sy A4 c4 wd h0 h1 h2 h3 h4 B0 B1 B2 B3 d0 d1 d2 d3 L' F' La' Fo' g0 g1 W4 q4 ws W) (hb : Below W.heap.size W W') : S2 w bp A0 c0 L A1 c1 F A2 c2 La A3 c3 Fo b sy A4 c4 wd h0 h1 h2 h3 h4 B0 B1 B2 B3 d0 d1 d2 d3 L' F' La' Fo' g0 g1 W4 q4 ws W' :=
 ⟨h.s1.step hb, Kd.R_below h.w0 hb, h.g, h.gg, Nat.le_trans h.g1W hb.size⟩
theorem S3.step (h : S3 w bp A0 c0 L A1 c1 F A2 c2 La A3 c3 Fo b sy A4 c4 wd h0 h1 h2 h3 h4 B0 B1 B2 B3 d0 d1 d2 d3 L' F' La' Fo' g0 g1 W4 q4 ws n br E0 e0 X0 E1 e1 X1 E2 e2 X2 E3 e3 X3 xb W) (hb : Below W.heap.size W W') :
  S3 w bp A0 c0 L A1 c1 F A2 c2 La A3 c3 Fo b sy A4 c4 wd h0 h1 h2 h3 h4 B0 B1 B2 B3 d0 d1 d2 d3 L' F' La' Fo' g0 g1 W4 q4 ws n br E0 e0 X0 E1 e1 X1 E2 e2 X2 E3 e3 X3 xb W' :=
 ⟨h.s2.step hb, h.rv.step hb, (hb.block _ (blk_lt h.hr)).trans h.hr, h.gn, h.nb⟩
theorem S1.xheld (h : S1 w bp A0 c0 L A1 c1 F A2 c2 La A3 c3 Fo b sy A4 c4 wd h0 h1 h2 h3 h4 B0 B1 B2 B3 d0 d1 d2 d3 L' F' La' Fo' W) :
  W.cell? ⟨w.heap.size, 0, none⟩ = some (.slice A0 L.length c0) ∧ W.cell? ⟨w.heap.size, 1, none⟩ = some (.slice A1 F.length c1) ∧ W.cell? ⟨w.heap.size, 2, none⟩ = some (.slice A2 La.length c2) ∧ W.cell? ⟨w.heap.size, 3, none⟩ = some (.slice A3 Fo.length c3) ∧ W.cell? ⟨w.heap.size, 4, none⟩ = some (.bool b) ∧
  W.cell? ⟨w.heap.size, 5, none⟩ = some (.int .i64 sy) ∧ W.cell? ⟨w.heap.size, 6, none⟩ = some (.slice A4 wd.length c4) :=
 ⟨(blk_cell h.hx 0).trans rfl, (blk_cell h.hx 1).trans rfl, (blk_cell h.hx 2).trans rfl, (blk_cell h.hx 3).trans rfl, (blk_cell h.hx 4).trans rfl, (blk_cell h.hx 5).trans rfl, (blk_cell h.hx 6).trans rfl⟩
theorem S1.pheld (h : S1 w bp A0 c0 L A1 c1 F A2 c2 La A3 c3 Fo b sy A4 c4 wd h0 h1 h2 h3 h4 B0 B1 B2 B3 d0 d1 d2 d3 L' F' La' Fo' W) :
  W.cell? ⟨bp, 0, none⟩ = some (.slice B0 L.length d0) ∧ W.cell? ⟨bp, 1, none⟩ = some (.slice B1 F.length d1) ∧ W.cell? ⟨bp, 2, none⟩ = some (.slice B2 La.length d2) ∧ W.cell? ⟨bp, 3, none⟩ = some (.slice B3 Fo.length d3) ∧ W.cell? ⟨bp, 4, none⟩ = some (.bool b) :=
 ⟨(blk_cell h.hp 0).trans rfl, (blk_cell h.hp 1).trans rfl, (blk_cell h.hp 2).trans rfl, (blk_cell h.hp 3).trans rfl, (blk_cell h.hp 4).trans rfl⟩
theorem S3.rheld (h : S3 w bp A0 c0 L A1 c1 F A2 c2 La A3 c3 Fo b sy A4 c4 wd h0 h1 h2 h3 h4 B0 B1 B2 B3 d0 d1 d2 d3 L' F' La' Fo' g0 g1 W4 q4 ws n br E0 e0 X0 E1 e1 X1 E2 e2 X2 E3 e3 X3 xb W) :
  W.cell? ⟨br, 0, none⟩ = some (.slice E0 X0.length e0) ∧ W.cell? ⟨br, 1, none⟩ = some (.slice E1 X1.length e1) ∧ W.cell? ⟨br, 2, none⟩ = some (.slice E2 X2.length e2) ∧ W.cell? ⟨br, 3, none⟩ = some (.slice E3 X3.length e3) ∧ W.cell? ⟨br, 4, none⟩ = some (.bool xb) ∧
  W.cell? ⟨w.heap.size, 0, none⟩ = some (.slice A0 L.length c0) ∧ W.cell? ⟨w.heap.size, 1, none⟩ = some (.slice A1 F.length c1) ∧ W.cell? ⟨w.heap.size, 2, none⟩ = some (.slice A2 La.length c2) ∧ W.cell? ⟨w.heap.size, 3, none⟩ = some (.slice A3 Fo.length c3) ∧ W.cell? ⟨w.heap.size, 4, none⟩ = some (.bool b) :=
 ⟨(blk_cell h.hr 0).trans rfl, (blk_cell h.hr 1).trans rfl, (blk_cell h.hr 2).trans rfl, (blk_cell h.hr 3).trans rfl, (blk_cell h.hr 4).trans rfl, h.s2.s1.xheld.1, h.s2.s1.xheld.2.1, h.s2.s1.xheld.2.2.1, h.s2.s1.xheld.2.2.2.1, h.s2.s1.xheld.2.2.2.2.1⟩
theorem S2.word (h : S2 w bp A0 c0 L A1 c1 F A2 c2 La A3 c3 Fo b sy A4 c4 wd h0 h1 h2 h3 h4 B0 B1 B2 B3 d0 d1 d2 d3 L' F' La' Fo' g0 g1 W4 q4 ws W) : Kd.C kI W W4 ws.length ws ∧ ws.length ≤ q4 := by
 obtain ⟨_, l, k⟩ := Kd.R_reads' h.w0
 have e : (marks ws).length = ws.length + 2 := by simp [marks]
 exact ⟨C_pre k, by omega⟩
theorem S2.wmarks (h : S2 w bp A0 c0 L A1 c1 F A2 c2 La A3 c3 Fo b sy A4 c4 wd h0 h1 h2 h3 h4 B0 B1 B2 B3 d0 d1 d2 d3 L' F' La' Fo' g0 g1 W4 q4 ws W) : Kd.C kI W W4 (marks ws).length (marks ws) ∧ (marks ws).length ≤ q4 := by
 obtain ⟨_, l, k⟩ := Kd.R_reads' h.w0
 exact ⟨k, l⟩
/-- the word's first number is another one -/
theorem S3.put {x : Int} {r : List Int} (h : S3 w bp A0 c0 L A1 c1 F A2 c2 La A3 c3 Fo b sy A4 c4 wd h0 h1 h2 h3 h4 B0 B1 B2 B3 d0 d1 d2 d3 L' F' La' Fo' g0 g1 W4 q4 (x :: r) n br E0 e0 X0 E1 e1 X1 E2 e2 X2 E3 e3 X3 xb W) :
  ∃ g, W4 = some ⟨g, 0, none⟩ ∧ W.cell? ⟨g, 0, none⟩ = some (.int .i64 x) ∧ W.frozen? ⟨g, 0, none⟩ = false ∧ ∀ v, v = 1 - pk2 x →
   S3 w bp A0 c0 L A1 c1 F A2 c2 La A3 c3 Fo b sy A4 c4 wd h0 h1 h2 h3 h4 B0 B1 B2 B3 d0 d1 d2 d3 L' F' La' Fo' g0 g1 W4 q4 (flip (x :: r)) n br E0 e0 X0 E1 e1 X1 E2 e2 X2 E3 e3 X3 xb (W.setCell ⟨g, 0, none⟩ (.int .i64 v)) := by
 have hr := h.s2.w0
 obtain ⟨g, cap, e, _, _, _⟩ := Kd.R_form hr (by simp [marks])
 have hA : W4 = some ⟨g, 0, none⟩ := by injection e
 subst hA
 have hok := hr.1 g (by simp [Value.ownBlock])
 have hok' : g0 ≤ g ∧ g < g1 := hok
 have hc := Kd.R_cell (d := 0) hr (0 : Int) (by omega) (by simp [marks]; omega)
 have o0 := h.s2.s1.lp.o0
 have o1 := h.s2.s1.lp.o1
 have o2 := h.s2.s1.lp.o2
 have o3 := h.s2.s1.lp.o3
 have o4 := h.s2.s1.lp.o4
 have bph := h.s2.s1.bph
 have hg := h.s2.g
 have hgn := h.gn
 have hnb := h.nb
 refine ⟨g, rfl, hc.1, hc.2, fun v hv => ?_⟩
 have far : ∀ k, k ≠ g → (W.setCell ⟨g, 0, none⟩ (.int .i64 v)).heap[k]? = W.heap[k]? := fun k hk => Below.heap_setCell W ⟨g, 0, none⟩ _ k hk
 have hsz : (W.setCell ⟨g, 0, none⟩ (.int .i64 v)).heap.size = W.heap.size := by simp [World.setCell]
 refine ⟨⟨⟨h.s2.s1.below.setCell (by show w.heap.size ≤ g; omega) _, (far _ (by omega)).trans h.s2.s1.hx, h.s2.s1.lp.move (fun k hk1 hk2 => far k (by omega)) (by omega), (far _ (by omega)).trans h.s2.s1.hp, bph⟩, ?_, hg, h.s2.gg, by rw [hsz]; exact h.s2.g1W⟩, h.rv.move (fun k hk _ => far k (by omega)), (far _ (by omega)).trans h.hr, hgn, hnb⟩
 have := (Kd.R_put hr (0 : Int) v).1
 rw [show (marks (x :: r)).set (0 : Int).toNat v = marks (flip (x :: r)) from by rw [hv]; rfl] at this
 rw [show (marks (flip (x :: r))).length = (marks (x :: r)).length from by simp [marks, flip_length]]
 exact this
/-- the positions that were lent are others -/
theorem S3.over (h : S3 w bp A0 c0 L A1 c1 F A2 c2 La A3 c3 Fo b sy A4 c4 wd h0 h1 h2 h3 h4 B0 B1 B2 B3 d0 d1 d2 d3 L' F' La' Fo' g0 g1 W4 q4 ws n br E0 e0 X0 E1 e1 X1 E2 e2 X2 E3 e3 X3 xb W)
  (hl : LP (w.heap.size + 1) h0 h1 h2 h3 h4 B0 B1 B2 B3 d0 d1 d2 d3 (overL L') (flip F') (flip La') (overL Fo') W') (hb : Below h0 W W') (hk : ∀ k, h4 ≤ k → k < W.heap.size → W'.heap[k]? = W.heap[k]?) :
  S3 w bp A0 c0 L A1 c1 F A2 c2 La A3 c3 Fo b sy A4 c4 wd h0 h1 h2 h3 h4 B0 B1 B2 B3 d0 d1 d2 d3 (overL L') (flip F') (flip La') (overL Fo') g0 g1 W4 q4 ws n br E0 e0 X0 E1 e1 X1 E2 e2 X2 E3 e3 X3 xb W' := by
 have o0 := h.s2.s1.lp.o0
 have o1 := h.s2.s1.lp.o1
 have o2 := h.s2.s1.lp.o2
 have o3 := h.s2.s1.lp.o3
 have o4 := h.s2.s1.lp.o4
 have bph := h.s2.s1.bph
 have hg := h.s2.g
 have hg1 := h.s2.g1W
 have hgg := h.s2.gg
 have hgn := h.gn
 have hnb := h.nb
 have hlt := blk_lt h.hr
 have hltp := blk_lt h.s2.s1.hp
 refine ⟨⟨⟨h.s2.s1.below.trans (hb.mono (by omega)), (hb.block _ (by omega)).trans h.s2.s1.hx, hl, (hk _ bph hltp).trans h.s2.s1.hp, bph⟩, Kd.R_move h.s2.w0 (fun k hk2 => hk k (by have := hk2.1; omega) (by have := hk2.2; omega)), hg, h.s2.gg, Nat.le_trans hg1 hb.size⟩, ?_, (hk _ (by omega) hlt).trans h.hr, hgn, hnb⟩
 exact h.rv.move (fun k hk2 hk3 => hk k (by omega) hk3)
end
set_option maxHeartbeats 8000000 in
set_option maxRecDepth 100000 in
theorem law_calls {a0 a1 a2 : Addr} {A0 A1 A2 A3 A4 : Option Addr} {c0 c1 c2 c3 c4 : Nat} {L : LL} {F La : List Int} {Fo : LL} {wd : List Int} {w : World} (h : Cs A0 c0 L A1 c1 F A2 c2 La A3 c3 Fo w) (hp : PB L F La Fo) (hS : Sen a0 a1 a2 w) (b : Bool) (sy : Int) (h4 : Kd.C kI w A4 wd.length wd) (h5 : wd.length ≤ c4) (h6 : wd.length ≤ 17592186043904) :
  Calls Tryd.prog 4 #[.agg #[.slice A0 L.length c0, .slice A1 F.length c1, .slice A2 La.length c2, .slice A3 Fo.length c3, .bool b, .int .i64 sy, .slice A4 wd.length c4]] w fun e w' => e = .returned (.bool true) ∧ Below w.heap.size w w' := by
 have hu := Tryd.underlying42
 have hu2 := Tryd.underlying44
 have H := Aside0.mk h
 have HP := Aside0.mk hp
 have HSen := Aside0.mk hS
 have H4 := Aside0.mk (And.intro h4 h5)
 have H6 := Aside0.mk h6
 obtain ⟨c, hc⟩ : ∃ c, checkC L F La Fo sy = c := ⟨_, rfl⟩
 obtain ⟨m, hm⟩ : ∃ m, matchB L F La Fo b wd = m := ⟨_, rfl⟩
 obtain ⟨er, her⟩ : ∃ v, errMA (errV a2) (errV a0) c = v := ⟨_, rfl⟩
 have HC : Aside0 (checkC L F La Fo sy = c ∧ matchB L F La Fo b wd = m ∧ (c = 0 ∨ c = 1 ∨ c = 3) ∧ errMA (errV a2) (errV a0) c = er) := ⟨⟨hc, hm, by rw [← hc]; exact checkC_cases _ _ _ _ _, her⟩⟩
 clear h hp hS h4 h5 h6 hc hm her
 go_enter Tryd.func4, Tryd.ntmps4
 have HX0 : Aside0 ((w.alloc (.cells #[.slice A0 L.length c0, .slice A1 F.length c1, .slice A2 La.length c2, .slice A3 Fo.length c3, .bool b, .int .i64 sy, .slice A4 wd.length c4] 44)).heap[w.heap.size]? = some (.cells #[.slice A0 L.length c0, .slice A1 F.length c1, .slice A2 La.length c2, .slice A3 Fo.length c3, .bool b, .int .i64 sy, .slice A4 wd.length c4] 44 (0, 0)) ∧ Below w.heap.size w (w.alloc (.cells #[.slice A0 L.length c0, .slice A1 F.length c1, .slice A2 La.length c2, .slice A3 Fo.length c3, .bool b, .int .i64 sy, .slice A4 wd.length c4] 44)) ∧ (w.alloc (.cells #[.slice A0 L.length c0, .slice A1 F.length c1, .slice A2 La.length c2, .slice A3 Fo.length c3, .bool b, .int .i64 sy, .slice A4 wd.length c4] 44)).heap.size = w.heap.size + 1) := ⟨⟨heap_alloc_new _ _, below_alloc (Below.refl _ _) _, by simp⟩⟩
 go_wp2_with fail
 refine (lent_c (H.out.below HX0.out.2.1) HP.out b).mono ?_
 rintro e w1 ⟨B0, B1, B2, B3, d0, d1, d2, d3, h0, h1, h2, h3, h4, rfl, hlp, hb⟩
 rw [HX0.out.2.2] at hlp
 have hxw := (hb.block _ (blk_lt HX0.out.1)).trans HX0.out.1
 have hbw := below_step HX0.out.2.1 hb
 have HS1 : Aside0 (S1 w w1.heap.size A0 c0 L A1 c1 F A2 c2 La A3 c3 Fo b sy A4 c4 wd h0 h1 h2 h3 h4 B0 B1 B2 B3 d0 d1 d2 d3 L F La Fo (w1.alloc (.cells #[.slice B0 L.length d0, .slice B1 F.length d1, .slice B2 La.length d2, .slice B3 Fo.length d3, .bool b] 42))) :=
  ⟨⟨below_alloc hbw _, blk_alloc hxw _, hlp.step (below_alloc (Below.refl _ _) _), heap_alloc_new _ _, hlp.o5⟩⟩
 clear hb hlp hxw hbw HX0
 go_upto_region 2 with fail
 obtain ⟨bp, hbp⟩ : ∃ q, q = w1.heap.size := ⟨_, rfl⟩
 have hbp2 : Aside0 (bp < (w1.alloc (.cells #[.slice B0 L.length d0, .slice B1 F.length d1, .slice B2 La.length d2, .slice B3 Fo.length d3, .bool b] 42)).heap.size) := ⟨by rw [hbp]; simp⟩
 rw [← hbp] at HS1 ⊢
 clear hbp
 generalize World.alloc _ _ = w2 at HS1 hbp2 ⊢
 obtain ⟨x0, x1, x2, x3, x4, x5, x6⟩ := HS1.out.xheld
 go_wp2_with fail
 refine (list_calls A4 c4 wd _ (Kd.C_below H4.out.1 HS1.out.below) H4.out.2 H6.out).mono ?_
 rintro e w3 ⟨W4, q4, rfl, ho, hb⟩
 have HS2 : Aside0 (S2 w bp A0 c0 L A1 c1 F A2 c2 La A3 c3 Fo b sy A4 c4 wd h0 h1 h2 h3 h4 B0 B1 B2 B3 d0 d1 d2 d3 L F La Fo w2.heap.size w3.heap.size W4 q4 wd w3) :=
  ⟨⟨HS1.out.step hb, Kd.R_mono (Kd.R_lower (Kd.R_bound ho) (Nat.le_trans (Nat.succ_le_of_lt (blk_lt HS1.out.hx)) (Nat.le_refl _))) (fun k hk => ⟨hk.2.1, hk.2.2.1⟩), hbp2.out, hb.size, Nat.le_refl _⟩⟩
 generalize w2.heap.size = g0 at HS2
 generalize hg1 : w3.heap.size = g1 at HS2
 have HG1 := Aside0.mk (Nat.le_of_eq hg1.symm)
 clear hg1 ho hb HS1 hbp2 x0 x1 x2 x3 x4 x5 x6
 obtain ⟨x0, x1, x2, x3, x4, x5, x6⟩ := HS2.out.s1.xheld
 obtain ⟨y0, y1, y2, y3, y4⟩ := HS2.out.s1.pheld
 go_wp2_with fail
 refine (pcheck_c HS2.out.s1.lp.cs (HSen.out.step HS2.out.s1.below) b sy).mono ?_
 rintro e w4 ⟨rfl, hb⟩
 rw [HC.out.1, HC.out.2.2.2]
 replace HG1 := Aside0.mk (Nat.le_trans HG1.out hb.size)
 replace HS2 := Aside0.mk (HS2.out.step hb)
 clear hb x0 x1 x2 x3 x4 x5 x6 y0 y1 y2 y3 y4
 obtain ⟨y0, y1, y2, y3, y4⟩ := HS2.out.s1.pheld
 go_wp2_with fail
 refine (pmatch_c HS2.out.s1.lp.cs HP.out b HS2.out.word.1).mono ?_
 rintro e w5 ⟨rfl, hb⟩
 rw [HC.out.2.1]
 replace HG1 := Aside0.mk (Nat.le_trans HG1.out hb.size)
 replace HS2 := Aside0.mk (HS2.out.step hb)
 clear hb y0 y1 y2 y3 y4
 obtain ⟨y0, y1, y2, y3, y4⟩ := HS2.out.s1.pheld
 go_wp2_with fail
 refine (prev_c HS2.out.s1.lp.cs HP.out b).mono ?_
 rintro e w6 ⟨E0, e0, E1, e1, E2, e2, E3, e3, rfl, hR, hb⟩
 replace HS2 := Aside0.mk (HS2.out.step hb)
 clear y0 y1 y2 y3 y4
 obtain ⟨X0, hX0⟩ : ∃ X, rv0 L F La Fo = X := ⟨_, rfl⟩
 obtain ⟨X1, hX1⟩ : ∃ X, rv1 L F La Fo = X := ⟨_, rfl⟩
 obtain ⟨X2, hX2⟩ : ∃ X, rv2 L F La Fo = X := ⟨_, rfl⟩
 obtain ⟨X3, hX3⟩ : ∃ X, rv3 L F La Fo = X := ⟨_, rfl⟩
 obtain ⟨xb, hXb⟩ : ∃ X, rvb L F La Fo b = X := ⟨_, rfl⟩
 rw [hX0, hX1, hX2, hX3] at hR
 rw [hX0, hX1, hX2, hX3, hXb]
 have HX := Aside0.mk (And.intro hX0 (And.intro hX1 (And.intro hX2 (And.intro hX3 hXb))))
 clear hX0 hX1 hX2 hX3 hXb
 have HS : Aside0 (S3 w bp A0 c0 L A1 c1 F A2 c2 La A3 c3 Fo b sy A4 c4 wd h0 h1 h2 h3 h4 B0 B1 B2 B3 d0 d1 d2 d3 L F La Fo g0 g1 W4 q4 wd w5.heap.size w6.heap.size E0 e0 X0 E1 e1 X1 E2 e2 X2 E3 e3 X3 xb (w6.alloc (.cells #[.slice E0 X0.length e0, .slice E1 X1.length e1, .slice E2 X2.length e2, .slice E3 X3.length e3, .bool xb] 42))) :=
  ⟨⟨HS2.out.step (below_alloc (Below.refl _ _) _), hR.step (below_alloc (Below.refl _ _) _), heap_alloc_new _ _, HG1.out, hb.size⟩⟩
 clear hb hR HS2 HG1
 go_upto_region 6 with fail
 generalize w6.heap.size = br at HS ⊢
 generalize w5.heap.size = n at HS
 generalize World.alloc _ _ = w7 at HS ⊢
 obtain ⟨x0, x1, x2, x3, x4, x5, x6⟩ := HS.out.s2.s1.xheld
 go_wp2_with fail
 refine (ints_c HS.out.s2.word.1 HS.out.s2.word.2 (Kd.C_below H4.out.1 HS.out.s2.s1.below) H4.out.2).mono ?_
 rintro e w8 ⟨rfl, hb⟩
 replace HS := Aside0.mk (HS.out.step hb)
 clear hb x0 x1 x2 x3 x4 x5 x6
 go_upto_region 7 with fail
 replace HS := Aside0.mk (HS.out.step (below_drew (Below.refl _ w8)))
 refine start_ (n := 6) (S := fun w' => w'.cell? ⟨br, 0, none⟩ = some (.slice E0 X0.length e0) ∧ w'.cell? ⟨br, 1, none⟩ = some (.slice E1 X1.length e1) ∧ w'.cell? ⟨br, 2, none⟩ = some (.slice E2 X2.length e2) ∧ w'.cell? ⟨br, 3, none⟩ = some (.slice E3 X3.length e3) ∧ w'.cell? ⟨br, 4, none⟩ = some (.bool xb) ∧ w'.cell? ⟨w.heap.size, 0, none⟩ = some (.slice A0 L.length c0) ∧ w'.cell? ⟨w.heap.size, 1, none⟩ = some (.slice A1 F.length c1) ∧ w'.cell? ⟨w.heap.size, 2, none⟩ = some (.slice A2 La.length c2) ∧ w'.cell? ⟨w.heap.size, 3, none⟩ = some (.slice A3 Fo.length c3) ∧ w'.cell? ⟨w.heap.size, 4, none⟩ = some (.bool b)) (ds := [5]) #[false, false, false, false, false, false] (by kernel_rfl) rfl rfl HS.out.rheld (fun hHeld => ?_)
 refine with_tabW plr.tab7 plr.bits7 (fun HT_ HW_ => ?_)
 generalize w8.drew = wn at HS hHeld ⊢
 refine take_ (i := 0) (N := some 34) (v := ?_) (a' := ?_) #[true, false, false, false, false, false] rfl rfl (take_ofW HT_.out HW_.out (by kernel_rfl)) (fun _ _ _ h => h) (Or.inl ⟨by rfl, ?_⟩) hHeld ?_ ?_
 rotate_left
 ·rintro w' ⟨s0, s1, s2, s3, s4, s5, s6, s7, s8, s9⟩
  go_simp
  with_reducible rfl
 rotate_left
 ·simp only [Act.put, List.setIfInBounds_toArray, List.set_cons_zero, List.set_cons_succ, i64_w, i32_w]
  rfl
 refine pure_ (i := 1) (N := some 35) (v := ?_) (a' := ?_) #[true, true, false, false, false, false] rfl rfl (any_of HT_.out (by kernel_rfl)) (fun _ _ _ h => h) (Or.inl ⟨by rfl, ?_⟩) ?_ ?_
 rotate_left
 ·intro w'
  go_simp
  with_reducible rfl
 rotate_left
 ·simp only [Act.put, List.setIfInBounds_toArray, List.set_cons_zero, List.set_cons_succ, i64_w, i32_w]
  rfl
 refine take_ (i := 2) (N := some 36) (v := ?_) (a' := ?_) #[true, true, true, false, false, false] rfl rfl (take_ofW HT_.out HW_.out (by kernel_rfl)) (fun _ _ _ h => h) (Or.inl ⟨by rfl, ?_⟩) hHeld ?_ ?_
 rotate_left
 ·rintro w' ⟨s0, s1, s2, s3, s4, s5, s6, s7, s8, s9⟩
  go_simp
  with_reducible rfl
 rotate_left
 ·simp only [Act.put, List.setIfInBounds_toArray, List.set_cons_zero, List.set_cons_succ, i64_w, i32_w]
  rfl
 refine one_ (i := 3) (N := some 37) #[true, true, true, true, false, false] rfl rfl (one_of HT_.out (by kernel_rfl)) (by decide) (fun K hK => ?_)
 refine goes_ Tryd.func26 (by kernel_rfl) rfl #[.agg #[.slice A0 L.length c0, .slice A1 F.length c1, .slice A2 La.length c2, .slice A3 Fo.length c3, .bool b]] (by rfl) rfl rfl (by (try simp only [List.map_toArray, List.map_cons, List.map_nil]); first | done | rfl) ?_
 refine (drev_c (H.out.below HS.out.s2.s1.below) HP.out b).mono ?_
 rintro e wm ⟨Z0, z0, Z1, z1, Z2, z2, Z3, z3, rfl, hR2, hb⟩
 refine ⟨_, rfl, ?_⟩
 rw [HX.out.1, HX.out.2.1, HX.out.2.2.1, HX.out.2.2.2.1] at hR2
 rw [HX.out.1, HX.out.2.1, HX.out.2.2.1, HX.out.2.2.2.1, HX.out.2.2.2.2]
 have HZ := Aside0.mk hR2.cs
 clear hR2
 replace HS := Aside0.mk (HS.out.step hb)
 obtain ⟨wn, rfl⟩ : ∃ wn, wn = wm := ⟨_, rfl⟩
 refine hK.out _ _ HS.out.rheld (fun hHeld => ?_)
 clear hK K hb
 refine norm_ (a' := ?_) ?_ ?_
 rotate_left
 ·show Act.put _ (some 37) _ = _
  simp only [Act.put, List.setIfInBounds_toArray, List.set_cons_zero, List.set_cons_succ, i64_w, i32_w]
  rfl
 refine one_ (i := 4) (N := some 38) #[true, true, true, true, true, false] rfl rfl (one_of HT_.out (by kernel_rfl)) (by decide) (fun K hK => ?_)
 refine goes_ Tryd.func25 (by kernel_rfl) rfl #[.agg #[.slice E0 X0.length e0, .slice E1 X1.length e1, .slice E2 X2.length e2, .slice E3 X3.length e3, .bool xb], .agg #[.slice Z0 X0.length z0, .slice Z1 X1.length z1, .slice Z2 X2.length z2, .slice Z3 X3.length z3, .bool xb]] (by rfl) rfl rfl (by (try simp only [List.map_toArray, List.map_cons, List.map_nil]); first | done | rfl) ?_
 refine (same_c HS.out.rv.cs HZ.out xb).mono ?_
 rintro e wm ⟨rfl, hb⟩
 refine ⟨_, rfl, ?_⟩
 skip
 replace HS := Aside0.mk (HS.out.step hb)
 obtain ⟨wn, rfl⟩ : ∃ wn, wn = wm := ⟨_, rfl⟩
 refine hK.out _ _ HS.out.rheld (fun hHeld => ?_)
 clear hK K hb
 refine norm_ (a' := ?_) ?_ ?_
 rotate_left
 ·show Act.put _ (some 38) _ = _
  simp only [Act.put, List.setIfInBounds_toArray, List.set_cons_zero, List.set_cons_succ, i64_w, i32_w]
  rfl
 refine pure_ (i := 5) (N := some 9) (v := ?_) (a' := ?_) #[true, true, true, true, true, true] rfl rfl (any_of HT_.out (by kernel_rfl)) (fun _ _ _ h => h) (Or.inl ⟨by rfl, ?_⟩) ?_ ?_
 rotate_left
 ·intro w'
  go_simp
  with_reducible rfl
 rotate_left
 ·simp only [Act.put, List.setIfInBounds_toArray, List.set_cons_zero, List.set_cons_succ, i64_w, i32_w]
  rfl
 refine done_ (done_of HT_.out (by kernel_rfl)) ?_
 clear HZ hHeld
 obtain ⟨x0, x1, x2, x3, x4, x5, x6⟩ := HS.out.s2.s1.xheld
 obtain ⟨y0, y1, y2, y3, y4⟩ := HS.out.s2.s1.pheld
 go_wp2_with fail
 refine (same_c HS.out.s2.s1.lp.cs (H.out.below HS.out.s2.s1.below) b).mono ?_
 rintro e w9 ⟨rfl, hb⟩
 replace HS := Aside0.mk (HS.out.step hb)
 clear hb x0 x1 x2 x3 x4 x5 x6 y0 y1 y2 y3 y4
 obtain ⟨y0, y1, y2, y3, y4⟩ := HS.out.s2.s1.pheld
 go_wp2_with fail
 refine (marked_calls b HS.out.s2.s1.lp HP.out.fo HP.out.l HP.out.f HP.out.la HP.out.lr HP.out.fr).mono ?_
 rintro e w10 ⟨rfl, hb⟩
 replace HS := Aside0.mk (HS.out.step hb)
 clear hb y0 y1 y2 y3 y4
 go_wp2_with fail
 refine (listLeft_calls W4 q4 wd _ HS.out.s2.wmarks.1 HS.out.s2.wmarks.2 H6.out).mono ?_
 rintro e w11 ⟨rfl, hb⟩
 replace HS := Aside0.mk (HS.out.step hb)
 clear hb
 go_upto_region 10 with fail
 replace HS := Aside0.mk (HS.out.step (below_drew (Below.refl _ w11)))
 refine start_ (n := 29) (S := fun w' => w'.cell? ⟨w.heap.size, 0, none⟩ = some (.slice A0 L.length c0) ∧ w'.cell? ⟨w.heap.size, 1, none⟩ = some (.slice A1 F.length c1) ∧ w'.cell? ⟨w.heap.size, 2, none⟩ = some (.slice A2 La.length c2) ∧ w'.cell? ⟨w.heap.size, 3, none⟩ = some (.slice A3 Fo.length c3) ∧ w'.cell? ⟨w.heap.size, 4, none⟩ = some (.bool b) ∧ w'.cell? ⟨w.heap.size, 5, none⟩ = some (.int .i64 sy) ∧ w'.cell? ⟨w.heap.size, 6, none⟩ = some (.slice A4 wd.length c4)) (ds := [28]) #[false, false, false, false, false, false, false, false, false, false, false, false, false, false, false, false, false, false, false, false, false, false, false, false, false, false, false, false, false] (by kernel_rfl) rfl rfl HS.out.s2.s1.xheld (fun hHeld => ?_)
 refine with_tabW plr.tab10 plr.bits10 (fun HT_ HW_ => ?_)
 generalize w11.drew = wn at HS hHeld ⊢
 refine pure_ (i := 0) (N := some 52) (v := ?_) (a' := ?_) #[true, false, false, false, false, false, false, false, false, false, false, false, false, false, false, false, false, false, false, false, false, false, false, false, false, false, false, false, false] rfl rfl (any_of HT_.out (by kernel_rfl)) (fun _ _ _ h => h) (Or.inl ⟨by rfl, ?_⟩) ?_ ?_
 rotate_left
 ·intro w'
  go_simp
  with_reducible rfl
 rotate_left
 ·simp only [Act.put, List.setIfInBounds_toArray, List.set_cons_zero, List.set_cons_succ, i64_w, i32_w]
  rfl
 refine pure_ (i := 2) (N := some 54) (v := ?_) (a' := ?_) #[true, false, true, false, false, false, false, false, false, false, false, false, false, false, false, false, false, false, false, false, false, false, false, false, false, false, false, false, false] rfl rfl (any_of HT_.out (by kernel_rfl)) (fun _ _ _ h => h) (Or.inl ⟨by rfl, ?_⟩) ?_ ?_
 rotate_left
 ·intro w'
  go_simp
  with_reducible rfl
 rotate_left
 ·simp only [Act.put, List.setIfInBounds_toArray, List.set_cons_zero, List.set_cons_succ, i64_w, i32_w]
  rfl
 refine take_ (i := 3) (N := some 55) (v := ?_) (a' := ?_) #[true, false, true, true, false, false, false, false, false, false, false, false, false, false, false, false, false, false, false, false, false, false, false, false, false, false, false, false, false] rfl rfl (take_ofW HT_.out HW_.out (by kernel_rfl)) (fun _ _ _ h => h) (Or.inl ⟨by rfl, ?_⟩) hHeld ?_ ?_
 rotate_left
 ·rintro w' ⟨s0, s1, s2, s3, s4, s5, s6⟩
  go_simp
  with_reducible rfl
 rotate_left
 ·simp only [Act.put, List.setIfInBounds_toArray, List.set_cons_zero, List.set_cons_succ, i64_w, i32_w]
  rfl
 refine pure_ (i := 4) (N := some 56) (v := ?_) (a' := ?_) #[true, false, true, true, true, false, false, false, false, false, false, false, false, false, false, false, false, false, false, false, false, false, false, false, false, false, false, false, false] rfl rfl (any_of HT_.out (by kernel_rfl)) (fun _ _ _ h => h) (Or.inl ⟨by rfl, ?_⟩) ?_ ?_
 rotate_left
 ·intro w'
  go_simp
  with_reducible rfl
 rotate_left
 ·simp only [Act.put, List.setIfInBounds_toArray, List.set_cons_zero, List.set_cons_succ, i64_w, i32_w]
  rfl
 refine take_ (i := 5) (N := some 57) (v := ?_) (a' := ?_) #[true, false, true, true, true, true, false, false, false, false, false, false, false, false, false, false, false, false, false, false, false, false, false, false, false, false, false, false, false] rfl rfl (take_ofW HT_.out HW_.out (by kernel_rfl)) (fun _ _ _ h => h) (Or.inl ⟨by rfl, ?_⟩) hHeld ?_ ?_
 rotate_left
 ·rintro w' ⟨s0, s1, s2, s3, s4, s5, s6⟩
  go_simp
  with_reducible rfl
 rotate_left
 ·simp only [Act.put, List.setIfInBounds_toArray, List.set_cons_zero, List.set_cons_succ, i64_w, i32_w]
  rfl
 refine one_ (i := 1) (N := some 53) #[true, true, true, true, true, true, false, false, false, false, false, false, false, false, false, false, false, false, false, false, false, false, false, false, false, false, false, false, false] rfl rfl (one_of HT_.out (by kernel_rfl)) (by decide) (fun K hK => ?_)
 refine goes_ Tryd.func17 (by kernel_rfl) rfl #[er] (by rfl) rfl rfl (by (try simp only [List.map_toArray, List.map_cons, List.map_nil]); first | done | rfl) ?_
 refine ((show Calls Tryd.prog 17 #[er] wn _ from by have hnn := num_calls wn (HSen.out.step HS.out.s2.s1.below) c HC.out.2.2.1; rw [HC.out.2.2.2] at hnn; exact hnn)).mono ?_
 rintro e wm ⟨rfl, hb⟩
 refine ⟨_, rfl, ?_⟩
 skip
 replace HS := Aside0.mk (HS.out.step hb)
 obtain ⟨wn, rfl⟩ : ∃ wn, wn = wm := ⟨_, rfl⟩
 refine hK.out _ _ HS.out.s2.s1.xheld (fun hHeld => ?_)
 clear hK K hb
 refine norm_ (a' := ?_) ?_ ?_
 rotate_left
 ·show Act.put _ (some 53) _ = _
  simp only [Act.put, List.setIfInBounds_toArray, List.set_cons_zero, List.set_cons_succ, i64_w, i32_w]
  rfl
 refine one_ (i := 6) (N := some 58) #[true, true, true, true, true, true, true, false, false, false, false, false, false, false, false, false, false, false, false, false, false, false, false, false, false, false, false, false, false] rfl rfl (one_of HT_.out (by kernel_rfl)) (by decide) (fun K hK => ?_)
 refine goes_ Tryd.func29 (by kernel_rfl) rfl #[.agg #[.slice A0 L.length c0, .slice A1 F.length c1, .slice A2 La.length c2, .slice A3 Fo.length c3, .bool b], .int .i64 sy] (by rfl) rfl rfl (by (try simp only [List.map_toArray, List.map_cons, List.map_nil]); first | done | rfl) ?_
 refine (dcheck_c (H.out.below HS.out.s2.s1.below) b sy).mono ?_
 rintro e wm ⟨rfl, hb⟩
 refine ⟨_, rfl, ?_⟩
 rw [HC.out.1]
 replace HS := Aside0.mk (HS.out.step hb)
 obtain ⟨wn, rfl⟩ : ∃ wn, wn = wm := ⟨_, rfl⟩
 refine hK.out _ _ HS.out.s2.s1.xheld (fun hHeld => ?_)
 clear hK K hb
 refine norm_ (a' := ?_) ?_ ?_
 rotate_left
 ·show Act.put _ (some 58) _ = _
  simp only [Act.put, List.setIfInBounds_toArray, List.set_cons_zero, List.set_cons_succ, i64_w, i32_w]
  rfl
 refine pure_ (i := 7) (N := some 59) (v := .bool false) (a' := ?_) #[true, true, true, true, true, true, true, true, false, false, false, false, false, false, false, false, false, false, false, false, false, false, false, false, false, false, false, false, false] rfl rfl (any_of HT_.out (by kernel_rfl)) (fun _ _ _ h => h) (Or.inl ⟨by rfl, ?_⟩) ?_ ?_
 ·intro w'
  go_simp
  try simp
 rotate_left
 ·simp only [Act.put, List.setIfInBounds_toArray, List.set_cons_zero, List.set_cons_succ, i64_w, i32_w]
  rfl
 refine pure_ (i := 8) (N := some 60) (v := ?_) (a' := ?_) #[true, true, true, true, true, true, true, true, true, false, false, false, false, false, false, false, false, false, false, false, false, false, false, false, false, false, false, false, false] rfl rfl (any_of HT_.out (by kernel_rfl)) (fun _ _ _ h => h) (Or.inl ⟨by rfl, ?_⟩) ?_ ?_
 rotate_left
 ·intro w'
  go_simp
  with_reducible rfl
 rotate_left
 ·simp only [Act.put, List.setIfInBounds_toArray, List.set_cons_zero, List.set_cons_succ, i64_w, i32_w]
  rfl
 refine pure_ (i := 9) (N := some 61) (v := ?_) (a' := ?_) #[true, true, true, true, true, true, true, true, true, true, false, false, false, false, false, false, false, false, false, false, false, false, false, false, false, false, false, false, false] rfl rfl (any_of HT_.out (by kernel_rfl)) (fun _ _ _ h => h) (Or.inl ⟨by rfl, ?_⟩) ?_ ?_
 rotate_left
 ·intro w'
  go_simp
  with_reducible rfl
 rotate_left
 ·simp only [Act.put, List.setIfInBounds_toArray, List.set_cons_zero, List.set_cons_succ, i64_w, i32_w]
  rfl
 refine pure_ (i := 10) (N := some 62) (v := ?_) (a' := ?_) #[true, true, true, true, true, true, true, true, true, true, true, false, false, false, false, false, false, false, false, false, false, false, false, false, false, false, false, false, false] rfl rfl (any_of HT_.out (by kernel_rfl)) (fun _ _ _ h => h) (Or.inl ⟨by rfl, ?_⟩) ?_ ?_
 rotate_left
 ·intro w'
  go_simp
  with_reducible rfl
 rotate_left
 ·simp only [Act.put, List.setIfInBounds_toArray, List.set_cons_zero, List.set_cons_succ, i64_w, i32_w]
  rfl
 refine take_ (i := 11) (N := some 63) (v := ?_) (a' := ?_) #[true, true, true, true, true, true, true, true, true, true, true, true, false, false, false, false, false, false, false, false, false, false, false, false, false, false, false, false, false] rfl rfl (take_ofW HT_.out HW_.out (by kernel_rfl)) (fun _ _ _ h => h) (Or.inl ⟨by rfl, ?_⟩) hHeld ?_ ?_
 rotate_left
 ·rintro w' ⟨s0, s1, s2, s3, s4, s5, s6⟩
  go_simp
  with_reducible rfl
 rotate_left
 ·simp only [Act.put, List.setIfInBounds_toArray, List.set_cons_zero, List.set_cons_succ, i64_w, i32_w]
  rfl
 refine pure_ (i := 12) (N := some 64) (v := ?_) (a' := ?_) #[true, true, true, true, true, true, true, true, true, true, true, true, true, false, false, false, false, false, false, false, false, false, false, false, false, false, false, false, false] rfl rfl (any_of HT_.out (by kernel_rfl)) (fun _ _ _ h => h) (Or.inl ⟨by rfl, ?_⟩) ?_ ?_
 rotate_left
 ·intro w'
  go_simp
  with_reducible rfl
 rotate_left
 ·simp only [Act.put, List.setIfInBounds_toArray, List.set_cons_zero, List.set_cons_succ, i64_w, i32_w]
  rfl
 refine take_ (i := 13) (N := some 65) (v := ?_) (a' := ?_) #[true, true, true, true, true, true, true, true, true, true, true, true, true, true, false, false, false, false, false, false, false, false, false, false, false, false, false, false, false] rfl rfl (take_ofW HT_.out HW_.out (by kernel_rfl)) (fun _ _ _ h => h) (Or.inl ⟨by rfl, ?_⟩) hHeld ?_ ?_
 rotate_left
 ·rintro w' ⟨s0, s1, s2, s3, s4, s5, s6⟩
  go_simp
  with_reducible rfl
 rotate_left
 ·simp only [Act.put, List.setIfInBounds_toArray, List.set_cons_zero, List.set_cons_succ, i64_w, i32_w]
  rfl
 refine one_ (i := 14) (N := some 66) #[true, true, true, true, true, true, true, true, true, true, true, true, true, true, true, false, false, false, false, false, false, false, false, false, false, false, false, false, false] rfl rfl (one_of HT_.out (by kernel_rfl)) (by decide) (fun K hK => ?_)
 refine goes_ Tryd.func30 (by kernel_rfl) rfl #[.agg #[.slice A0 L.length c0, .slice A1 F.length c1, .slice A2 La.length c2, .slice A3 Fo.length c3, .bool b], .slice A4 wd.length c4] (by rfl) rfl rfl (by (try simp only [List.map_toArray, List.map_cons, List.map_nil]); first | done | rfl) ?_
 refine (dmatch_c (H.out.below HS.out.s2.s1.below) HP.out.l b (Kd.C_below H4.out.1 HS.out.s2.s1.below) H4.out.2).mono ?_
 rintro e wm ⟨rfl, hb⟩
 refine ⟨_, rfl, ?_⟩
 rw [HC.out.2.1]
 replace HS := Aside0.mk (HS.out.step hb)
 obtain ⟨wn, rfl⟩ : ∃ wn, wn = wm := ⟨_, rfl⟩
 refine hK.out _ _ HS.out.s2.s1.xheld (fun hHeld => ?_)
 clear hK K hb
 refine norm_ (a' := ?_) ?_ ?_
 rotate_left
 ·show Act.put _ (some 66) _ = _
  simp only [Act.put, List.setIfInBounds_toArray, List.set_cons_zero, List.set_cons_succ, i64_w, i32_w]
  rfl
 refine pure_ (i := 15) (N := some 67) (v := .bool false) (a' := ?_) #[true, true, true, true, true, true, true, true, true, true, true, true, true, true, true, true, false, false, false, false, false, false, false, false, false, false, false, false, false] rfl rfl (any_of HT_.out (by kernel_rfl)) (fun _ _ _ h => h) (Or.inl ⟨by rfl, ?_⟩) ?_ ?_
 ·intro w'
  go_simp
  try simp
 rotate_left
 ·simp only [Act.put, List.setIfInBounds_toArray, List.set_cons_zero, List.set_cons_succ, i64_w, i32_w]
  rfl
 refine pure_ (i := 16) (N := some 68) (v := ?_) (a' := ?_) #[true, true, true, true, true, true, true, true, true, true, true, true, true, true, true, true, true, false, false, false, false, false, false, false, false, false, false, false, false] rfl rfl (any_of HT_.out (by kernel_rfl)) (fun _ _ _ h => h) (Or.inl ⟨by rfl, ?_⟩) ?_ ?_
 rotate_left
 ·intro w'
  go_simp
  with_reducible rfl
 rotate_left
 ·simp only [Act.put, List.setIfInBounds_toArray, List.set_cons_zero, List.set_cons_succ, i64_w, i32_w]
  rfl
 refine pure_ (i := 17) (N := some 69) (v := ?_) (a' := ?_) #[true, true, true, true, true, true, true, true, true, true, true, true, true, true, true, true, true, true, false, false, false, false, false, false, false, false, false, false, false] rfl rfl (any_of HT_.out (by kernel_rfl)) (fun _ _ _ h => h) (Or.inl ⟨by rfl, ?_⟩) ?_ ?_
 rotate_left
 ·intro w'
  go_simp
  with_reducible rfl
 rotate_left
 ·simp only [Act.put, List.setIfInBounds_toArray, List.set_cons_zero, List.set_cons_succ, i64_w, i32_w]
  rfl
 refine pure_ (i := 18) (N := some 70) (v := ?_) (a' := ?_) #[true, true, true, true, true, true, true, true, true, true, true, true, true, true, true, true, true, true, true, false, false, false, false, false, false, false, false, false, false] rfl rfl (any_of HT_.out (by kernel_rfl)) (fun _ _ _ h => h) (Or.inl ⟨by rfl, ?_⟩) ?_ ?_
 rotate_left
 ·intro w'
  go_simp
  with_reducible rfl
 rotate_left
 ·simp only [Act.put, List.setIfInBounds_toArray, List.set_cons_zero, List.set_cons_succ, i64_w, i32_w]
  rfl
 refine pure_ (i := 19) (N := some 71) (v := ?_) (a' := ?_) #[true, true, true, true, true, true, true, true, true, true, true, true, true, true, true, true, true, true, true, true, false, false, false, false, false, false, false, false, false] rfl rfl (any_of HT_.out (by kernel_rfl)) (fun _ _ _ h => h) (Or.inl ⟨by rfl, ?_⟩) ?_ ?_
 rotate_left
 ·intro w'
  go_simp
  with_reducible rfl
 rotate_left
 ·simp only [Act.put, List.setIfInBounds_toArray, List.set_cons_zero, List.set_cons_succ, i64_w, i32_w]
  rfl
 refine pure_ (i := 20) (N := some 72) (v := ?_) (a' := ?_) #[true, true, true, true, true, true, true, true, true, true, true, true, true, true, true, true, true, true, true, true, true, false, false, false, false, false, false, false, false] rfl rfl (any_of HT_.out (by kernel_rfl)) (fun _ _ _ h => h) (Or.inl ⟨by rfl, ?_⟩) ?_ ?_
 rotate_left
 ·intro w'
  go_simp
  with_reducible rfl
 rotate_left
 ·simp only [Act.put, List.setIfInBounds_toArray, List.set_cons_zero, List.set_cons_succ, i64_w, i32_w]
  rfl
 refine pure_ (i := 21) (N := some 73) (v := ?_) (a' := ?_) #[true, true, true, true, true, true, true, true, true, true, true, true, true, true, true, true, true, true, true, true, true, true, false, false, false, false, false, false, false] rfl rfl (any_of HT_.out (by kernel_rfl)) (fun _ _ _ h => h) (Or.inl ⟨by rfl, ?_⟩) ?_ ?_
 rotate_left
 ·intro w'
  go_simp
  with_reducible rfl
 rotate_left
 ·simp only [Act.put, List.setIfInBounds_toArray, List.set_cons_zero, List.set_cons_succ, i64_w, i32_w]
  rfl
 refine pure_ (i := 22) (N := some 74) (v := ?_) (a' := ?_) #[true, true, true, true, true, true, true, true, true, true, true, true, true, true, true, true, true, true, true, true, true, true, true, false, false, false, false, false, false] rfl rfl (any_of HT_.out (by kernel_rfl)) (fun _ _ _ h => h) (Or.inl ⟨by rfl, ?_⟩) ?_ ?_
 rotate_left
 ·intro w'
  go_simp
  with_reducible rfl
 rotate_left
 ·simp only [Act.put, List.setIfInBounds_toArray, List.set_cons_zero, List.set_cons_succ, i64_w, i32_w]
  rfl
 refine pure_ (i := 23) (N := some 75) (v := ?_) (a' := ?_) #[true, true, true, true, true, true, true, true, true, true, true, true, true, true, true, true, true, true, true, true, true, true, true, true, false, false, false, false, false] rfl rfl (any_of HT_.out (by kernel_rfl)) (fun _ _ _ h => h) (Or.inl ⟨by rfl, ?_⟩) ?_ ?_
 rotate_left
 ·intro w'
  go_simp
  with_reducible rfl
 rotate_left
 ·simp only [Act.put, List.setIfInBounds_toArray, List.set_cons_zero, List.set_cons_succ, i64_w, i32_w]
  rfl
 refine pure_ (i := 24) (N := some 76) (v := ?_) (a' := ?_) #[true, true, true, true, true, true, true, true, true, true, true, true, true, true, true, true, true, true, true, true, true, true, true, true, true, false, false, false, false] rfl rfl (any_of HT_.out (by kernel_rfl)) (fun _ _ _ h => h) (Or.inl ⟨by rfl, ?_⟩) ?_ ?_
 rotate_left
 ·intro w'
  go_simp
  with_reducible rfl
 rotate_left
 ·simp only [Act.put, List.setIfInBounds_toArray, List.set_cons_zero, List.set_cons_succ, i64_w, i32_w]
  rfl
 refine pure_ (i := 25) (N := some 77) (v := ?_) (a' := ?_) #[true, true, true, true, true, true, true, true, true, true, true, true, true, true, true, true, true, true, true, true, true, true, true, true, true, true, false, false, false] rfl rfl (any_of HT_.out (by kernel_rfl)) (fun _ _ _ h => h) (Or.inl ⟨by rfl, ?_⟩) ?_ ?_
 rotate_left
 ·intro w'
  go_simp
  with_reducible rfl
 rotate_left
 ·simp only [Act.put, List.setIfInBounds_toArray, List.set_cons_zero, List.set_cons_succ, i64_w, i32_w]
  rfl
 refine pure_ (i := 26) (N := some 78) (v := ?_) (a' := ?_) #[true, true, true, true, true, true, true, true, true, true, true, true, true, true, true, true, true, true, true, true, true, true, true, true, true, true, true, false, false] rfl rfl (any_of HT_.out (by kernel_rfl)) (fun _ _ _ h => h) (Or.inl ⟨by rfl, ?_⟩) ?_ ?_
 rotate_left
 ·intro w'
  go_simp
  with_reducible rfl
 rotate_left
 ·simp only [Act.put, List.setIfInBounds_toArray, List.set_cons_zero, List.set_cons_succ, i64_w, i32_w]
  rfl
 refine pure_ (i := 27) (N := some 79) (v := ?_) (a' := ?_) #[true, true, true, true, true, true, true, true, true, true, true, true, true, true, true, true, true, true, true, true, true, true, true, true, true, true, true, true, false] rfl rfl (any_of HT_.out (by kernel_rfl)) (fun _ _ _ h => h) (Or.inl ⟨by rfl, ?_⟩) ?_ ?_
 rotate_left
 ·intro w'
  go_simp
  with_reducible rfl
 rotate_left
 ·simp only [Act.put, List.setIfInBounds_toArray, List.set_cons_zero, List.set_cons_succ, i64_w, i32_w]
  rfl
 refine pure_ (i := 28) (N := some 80) (v := ?_) (a' := ?_) #[true, true, true, true, true, true, true, true, true, true, true, true, true, true, true, true, true, true, true, true, true, true, true, true, true, true, true, true, true] rfl rfl (any_of HT_.out (by kernel_rfl)) (fun _ _ _ h => h) (Or.inl ⟨by rfl, ?_⟩) ?_ ?_
 rotate_left
 ·intro w'
  go_simp
  with_reducible rfl
 rotate_left
 ·simp only [Act.put, List.setIfInBounds_toArray, List.set_cons_zero, List.set_cons_succ, i64_w, i32_w]
  rfl
 refine done_ (done_of HT_.out (by kernel_rfl)) ?_
 clear hHeld
 go_upto_if 83 with fail
 go_cut [84] (fun v84 wc => Aside0 (S3 w bp A0 c0 L A1 c1 F A2 c2 La A3 c3 Fo b sy A4 c4 wd h0 h1 h2 h3 h4 B0 B1 B2 B3 d0 d1 d2 d3 L F La Fo g0 g1 W4 q4 (flip wd) n br E0 e0 X0 E1 e1 X1 E2 e2 X2 E3 e3 X3 xb wc))
 case first =>
  clear HC H4 H6 H HP
  cases wd with
  | nil =>
   go_wp2_with fail
   go_meet
   exact HS
  | cons x r =>
   obtain ⟨g, rfl, hc1, hc2, hput⟩ := HS.out.put
   have hn1 : 0 < (x :: r).length := Nat.succ_pos _
   have hn2 : (0 : Int) < ((x :: r).length : Int) := by omega
   have HPut := Aside0.mk hput
   clear hput
   obtain ⟨ln, hlen⟩ : ∃ ln, (x :: r).length = ln := ⟨_, rfl⟩
   rw [hlen] at hn1 hn2 ⊢
   have HLN := Aside0.mk hlen
   clear hlen
   go_wp2_with fail
   refine (caesurakit_Pick.calls x 2 (pk2 x) _ (pk2_eq x)).mono ?_
   rintro e wq ⟨rfl, ⟨⟨n5, rfl⟩⟩⟩
   replace HS := Aside0.mk (HS.out.step (pw_below_drewN (Below.refl _ _) n5))
   clear HPut hc1 hc2
   obtain ⟨g', e, hc1, hc2, hput⟩ := HS.out.put
   injection e with e
   injection e with e
   subst e
   have HPut := Aside0.mk (hput (wrap64 (1 - pk2 x)) (wrap_pk2 x))
   clear hput
   generalize World.drewN _ n5 = wr at HS HPut hc1 hc2 ⊢
   go_wp2_with fail
   have hln := HLN.out
   subst hln
   go_meet
   exact HPut
 case rest =>
  clear HS
  have HS := hcut
  clear hcut
  obtain ⟨x0, x1, x2, x3, x4, x5, x6⟩ := HS.out.s2.s1.xheld
  obtain ⟨y0, y1, y2, y3, y4⟩ := HS.out.s2.s1.pheld
  go_wp2_with fail
  have hrd := reads_c HS.out.s2.s1.lp.cs HP.out (HSen.out.step HS.out.s2.s1.below) b sy HS.out.s2.word.1 HS.out.s2.word.2
  simp only [flip_length] at hrd
  refine hrd.mono ?_
  clear hrd
  rintro e w12 ⟨rfl, hb⟩
  replace HS := Aside0.mk (HS.out.step hb)
  clear hb x0 x1 x2 x3 x4 x5 x6 y0 y1 y2 y3 y4
  obtain ⟨y0, y1, y2, y3, y4⟩ := HS.out.s2.s1.pheld
  go_wp2_with fail
  refine (over_calls b HS.out.s2.s1.lp).mono ?_
  rintro e w13 ⟨rfl, hlp, hb, hk⟩
  replace HS := Aside0.mk (HS.out.over hlp hb hk)
  clear hlp hb hk y0 y1 y2 y3 y4
  obtain ⟨x0, x1, x2, x3, x4, x5, x6⟩ := HS.out.s2.s1.xheld
  obtain ⟨y0, y1, y2, y3, y4⟩ := HS.out.s2.s1.pheld
  go_wp2_with fail
  have hrd := reads_c HS.out.s2.s1.lp.cs HP.out.over (HSen.out.step HS.out.s2.s1.below) b sy HS.out.s2.word.1 HS.out.s2.word.2
  simp only [flip_length, overL_length] at hrd
  refine hrd.mono ?_
  clear hrd
  rintro e w14 ⟨rfl, hb⟩
  replace HS := Aside0.mk (HS.out.step hb)
  clear hb x0 x1 x2 x3 x4 x5 x6 y0 y1 y2 y3 y4
  go_upto_region 17 with fail
  replace HS := Aside0.mk (HS.out.step (below_drew (Below.refl _ w14)))
  refine start_ (n := 6) (S := fun w' => w'.cell? ⟨br, 0, none⟩ = some (.slice E0 X0.length e0) ∧ w'.cell? ⟨br, 1, none⟩ = some (.slice E1 X1.length e1) ∧ w'.cell? ⟨br, 2, none⟩ = some (.slice E2 X2.length e2) ∧ w'.cell? ⟨br, 3, none⟩ = some (.slice E3 X3.length e3) ∧ w'.cell? ⟨br, 4, none⟩ = some (.bool xb) ∧ w'.cell? ⟨w.heap.size, 0, none⟩ = some (.slice A0 L.length c0) ∧ w'.cell? ⟨w.heap.size, 1, none⟩ = some (.slice A1 F.length c1) ∧ w'.cell? ⟨w.heap.size, 2, none⟩ = some (.slice A2 La.length c2) ∧ w'.cell? ⟨w.heap.size, 3, none⟩ = some (.slice A3 Fo.length c3) ∧ w'.cell? ⟨w.heap.size, 4, none⟩ = some (.bool b)) (ds := [5]) #[false, false, false, false, false, false] (by kernel_rfl) rfl rfl HS.out.rheld (fun hHeld => ?_)
  refine with_tabW plr.tab17 plr.bits17 (fun HT_ HW_ => ?_)
  generalize w14.drew = wn at HS hHeld ⊢
  refine take_ (i := 0) (N := some 103) (v := ?_) (a' := ?_) #[true, false, false, false, false, false] rfl rfl (take_ofW HT_.out HW_.out (by kernel_rfl)) (fun _ _ _ h => h) (Or.inl ⟨by rfl, ?_⟩) hHeld ?_ ?_
  rotate_left
  ·rintro w' ⟨s0, s1, s2, s3, s4, s5, s6, s7, s8, s9⟩
   go_simp
   with_reducible rfl
  rotate_left
  ·simp only [Act.put, List.setIfInBounds_toArray, List.set_cons_zero, List.set_cons_succ, i64_w, i32_w]
   rfl
  refine pure_ (i := 1) (N := some 104) (v := ?_) (a' := ?_) #[true, true, false, false, false, false] rfl rfl (any_of HT_.out (by kernel_rfl)) (fun _ _ _ h => h) (Or.inl ⟨by rfl, ?_⟩) ?_ ?_
  rotate_left
  ·intro w'
   go_simp
   with_reducible rfl
  rotate_left
  ·simp only [Act.put, List.setIfInBounds_toArray, List.set_cons_zero, List.set_cons_succ, i64_w, i32_w]
   rfl
  refine take_ (i := 2) (N := some 105) (v := ?_) (a' := ?_) #[true, true, true, false, false, false] rfl rfl (take_ofW HT_.out HW_.out (by kernel_rfl)) (fun _ _ _ h => h) (Or.inl ⟨by rfl, ?_⟩) hHeld ?_ ?_
  rotate_left
  ·rintro w' ⟨s0, s1, s2, s3, s4, s5, s6, s7, s8, s9⟩
   go_simp
   with_reducible rfl
  rotate_left
  ·simp only [Act.put, List.setIfInBounds_toArray, List.set_cons_zero, List.set_cons_succ, i64_w, i32_w]
   rfl
  refine one_ (i := 3) (N := some 106) #[true, true, true, true, false, false] rfl rfl (one_of HT_.out (by kernel_rfl)) (by decide) (fun K hK => ?_)
  refine goes_ Tryd.func26 (by kernel_rfl) rfl #[.agg #[.slice A0 L.length c0, .slice A1 F.length c1, .slice A2 La.length c2, .slice A3 Fo.length c3, .bool b]] (by rfl) rfl rfl (by (try simp only [List.map_toArray, List.map_cons, List.map_nil]); first | done | rfl) ?_
  refine (drev_c (H.out.below HS.out.s2.s1.below) HP.out b).mono ?_
  rintro e wm ⟨Z0, z0, Z1, z1, Z2, z2, Z3, z3, rfl, hR2, hb⟩
  refine ⟨_, rfl, ?_⟩
  rw [HX.out.1, HX.out.2.1, HX.out.2.2.1, HX.out.2.2.2.1] at hR2
  rw [HX.out.1, HX.out.2.1, HX.out.2.2.1, HX.out.2.2.2.1, HX.out.2.2.2.2]
  have HZ := Aside0.mk hR2.cs
  clear hR2
  replace HS := Aside0.mk (HS.out.step hb)
  obtain ⟨wn, rfl⟩ : ∃ wn, wn = wm := ⟨_, rfl⟩
  refine hK.out _ _ HS.out.rheld (fun hHeld => ?_)
  clear hK K hb
  refine norm_ (a' := ?_) ?_ ?_
  rotate_left
  ·show Act.put _ (some 106) _ = _
   simp only [Act.put, List.setIfInBounds_toArray, List.set_cons_zero, List.set_cons_succ, i64_w, i32_w]
   rfl
  refine one_ (i := 4) (N := some 107) #[true, true, true, true, true, false] rfl rfl (one_of HT_.out (by kernel_rfl)) (by decide) (fun K hK => ?_)
  refine goes_ Tryd.func25 (by kernel_rfl) rfl #[.agg #[.slice E0 X0.length e0, .slice E1 X1.length e1, .slice E2 X2.length e2, .slice E3 X3.length e3, .bool xb], .agg #[.slice Z0 X0.length z0, .slice Z1 X1.length z1, .slice Z2 X2.length z2, .slice Z3 X3.length z3, .bool xb]] (by rfl) rfl rfl (by (try simp only [List.map_toArray, List.map_cons, List.map_nil]); first | done | rfl) ?_
  refine (same_c HS.out.rv.cs HZ.out xb).mono ?_
  rintro e wm ⟨rfl, hb⟩
  refine ⟨_, rfl, ?_⟩
  skip
  replace HS := Aside0.mk (HS.out.step hb)
  obtain ⟨wn, rfl⟩ : ∃ wn, wn = wm := ⟨_, rfl⟩
  refine hK.out _ _ HS.out.rheld (fun hHeld => ?_)
  clear hK K hb
  refine norm_ (a' := ?_) ?_ ?_
  rotate_left
  ·show Act.put _ (some 107) _ = _
   simp only [Act.put, List.setIfInBounds_toArray, List.set_cons_zero, List.set_cons_succ, i64_w, i32_w]
   rfl
  refine pure_ (i := 5) (N := some 14) (v := ?_) (a' := ?_) #[true, true, true, true, true, true] rfl rfl (any_of HT_.out (by kernel_rfl)) (fun _ _ _ h => h) (Or.inl ⟨by rfl, ?_⟩) ?_ ?_
  rotate_left
  ·intro w'
   go_simp
   with_reducible rfl
  rotate_left
  ·simp only [Act.put, List.setIfInBounds_toArray, List.set_cons_zero, List.set_cons_succ, i64_w, i32_w]
   rfl
  refine done_ (done_of HT_.out (by kernel_rfl)) ?_
  clear HZ hHeld
  go_wp2_with fail
  go_ret
  exact ⟨rfl, HS.out.s2.s1.below⟩
end Go.Proofs.YtfonajakaimnoaaDoor.C11

/- An argument that reads as data holds a value of its kind: laws for every kind of value, with the bounds that the reading's bulk and weights give. -/
namespace Go.Proofs.YtfonajakaimnoaaDoor.Opn
open Go.RowKit Go.Deep Go.Proofs.YtfonajakaimnoaaDoorW.PrintWords

/-- What reads as a datum (so deep) holds a value of the kind; m: its bulk at most the datum's; S: what the weights give; Q: what every reading gives. -/
def O {α : Type} (P : Program) (t : TypeId) (d : Kd α) (m : α → Nat) (S Q : α → Prop) (fuel : Nat) : Prop :=
 P.cellsOf t = d.sz ∧ ∀ {H : Type} (enc : TypeId × Value → H) (w : World) (cs : List Value) (x : DataW H × List MemPlace),
  DataW.trod enc P w 0 (fun _ => true) true fuel t cs = some x → ∃ a, d.K w a cs ∧ m a ≤ Rows.uptoBulk x.1 ∧ ((∀ n ∈ x.1.weights P t, n ≤ reachBytes) → S a) ∧ Q a

/-- The same of a row of fields, from a place of the struct on. -/
def OF {α : Type} (P : Program) (fs : List Field) (off : Nat) (d : Kd α) (m : α → Nat) (S Q : α → Prop) (fuel : Nat) : Prop :=
 ∀ {H : Type} (enc : TypeId × Value → H) (w : World) (cs : List Value) (ys : List (DataW H × List MemPlace)), ys.length = fs.length →
  (∀ (i : Nat) (f : Field), fs[i]? = some f → DataW.trod enc P w 0 (fun _ => true) true fuel f.type ((cs.drop f.offset).take (P.cellsOf f.type)) = ys[i]?) →
  ∃ a, d.K w a ((cs.drop off).take d.sz) ∧ m a ≤ Rows.uptoBulkAll (ys.map (·.1)) ∧ ((∀ n ∈ DataW.weightsEach P (fs.map (·.type)) (ys.map (·.1)), n ≤ reachBytes) → S a) ∧ Q a

variable {P : Program}

theorem O.int {t : TypeId} {k : IntKind} (ht : P.underlying t = some (.int k)) (hc : P.cellsOf t = 1) (fuel : Nat) :
  O P t (Kd.int k) (fun _ => 1) (fun _ => True) (fun n => (Lit.int k n).wf = true) fuel :=
 ⟨hc, fun enc w cs x h => by
  obtain ⟨n, rfl, rfl, hw⟩ := DataW.trod_int ht h
  exact ⟨n, rfl, by simp [Rows.uptoBulk], fun _ => trivial, hw⟩⟩
theorem O.bool {t : TypeId} (ht : P.underlying t = some .bool) (hc : P.cellsOf t = 1) (fuel : Nat) :
  O P t Kd.bool (fun _ => 1) (fun _ => True) (fun _ => True) fuel :=
 ⟨hc, fun enc w cs x h => by
  obtain ⟨n, rfl, rfl⟩ := DataW.trod_bool ht h
  exact ⟨n, rfl, by simp [Rows.uptoBulk], fun _ => trivial, trivial⟩⟩
theorem O.string {t : TypeId} (ht : P.underlying t = some .string) (hc : P.cellsOf t = 1) (fuel : Nat) :
  O P t Kd.string (fun s => s.size + 1) (fun s => s.size ≤ reachBytes) (fun s => s.size ≤ maxLen) fuel :=
 ⟨hc, fun enc w cs x h => by
  obtain ⟨n, rfl, rfl, hw⟩ := DataW.trod_string ht h
  refine ⟨n, rfl, by simp [Rows.uptoBulk], fun hn => ?_, hw⟩
  have := hn n.data.toList.length (by simp [DataW.weights])
  simpa using this⟩

/-- the bulk of a list of values -/
def ml {α : Type} (m : α → Nat) : List α → Nat
 | [] => 0
 | x :: r => m x + ml m r
theorem ml_append {α : Type} (m : α → Nat) (l r : List α) : ml m (l ++ r) = ml m l + ml m r := by
 induction l with
 | nil => simp [ml]
 | cons x l ih => simp only [List.cons_append, ml, ih]; omega
theorem ml_ge {α : Type} {m : α → Nat} (h : ∀ x, 1 ≤ m x) (l : List α) : l.length ≤ ml m l := by
 induction l with
 | nil => simp [ml]
 | cons x l ih => have := h x; simp only [List.length_cons, ml]; omega
theorem ml_mem {α : Type} {m : α → Nat} {x : α} {l : List α} (h : x ∈ l) : m x ≤ ml m l := by
 induction l with
 | nil => cases h
 | cons y l ih =>
  rcases List.mem_cons.1 h with rfl | h
  ·simp only [ml]; omega
  ·have := ih h; simp only [ml]; omega

theorem bulkAll_append {H : Type} (l r : List (DataW H)) : Rows.uptoBulkAll (l ++ r) = Rows.uptoBulkAll l + Rows.uptoBulkAll r := by
 induction l with
 | nil => simp [Rows.uptoBulkAll]
 | cons x l ih => simp only [List.cons_append, Rows.uptoBulkAll, ih]; omega
theorem weightsAll_mem {H : Type} {e : TypeId} {l : List (DataW H)} {x : DataW H} (hx : x ∈ l) {n : Nat} (hn : n ∈ x.weights P e) : n ∈ DataW.weightsAll P e l := by
 induction l with
 | nil => cases hx
 | cons y l ih =>
  simp only [DataW.weightsAll, List.mem_append]
  rcases List.mem_cons.1 hx with rfl | hx
  ·exact .inl hn
  ·exact .inr (ih hx)

/-- Elements, one by one, up to n. -/
theorem elems_of {α H : Type} {p : Nat → α → Prop} {m : α → Nat} {D : Nat → DataW H} : ∀ n, (∀ i, i < n → ∃ a, p i a ∧ m a ≤ Rows.uptoBulk (D i)) →
  ∃ us : List α, us.length = n ∧ (∀ i a, us[i]? = some a → p i a) ∧ ml m us ≤ Rows.uptoBulkAll ((List.range n).map D) := by
 intro n
 induction n with
 | zero => exact fun _ => ⟨[], rfl, fun i a h => by simp at h, by simp [ml]⟩
 | succ n ih =>
  intro h
  obtain ⟨us, h1, h2, h3⟩ := ih (fun i hi => h i (by omega))
  obtain ⟨a, ha, hm⟩ := h n (by omega)
  refine ⟨us ++ [a], by simp [h1], fun i b hb => ?_, ?_⟩
  ·rcases Nat.lt_or_ge i n with hi | hi
   ·rw [List.getElem?_append_left (by omega)] at hb
    exact h2 i b hb
   ·have hl := (List.getElem?_eq_some_iff.1 hb).1
    simp at hl
    have : i = n := by omega
    subst this
    rw [List.getElem?_append_right (by omega)] at hb
    simp [h1] at hb
    subst hb
    exact ha
  ·rw [List.range_succ, List.map_append, bulkAll_append, ml_append]
   simp only [List.map_cons, List.map_nil, Rows.uptoBulkAll, ml]
   omega

theorem add_add (a : Addr) (x y : Nat) : (a.add x).add y = a.add (x + y) := by
 unfold Addr.add
 by_cases hx : x = 0
 ·simp [hx]
 ·by_cases hy : y = 0
  ·simp [hy]
  ·simp [hx, hy, Nat.add_assoc]

theorem O.slice {α : Type} {t e e' : TypeId} {d : Kd α} {m : α → Nat} {S Q : α → Prop} (ht : P.underlying t = some (.slice e)) (hc : P.cellsOf t = 1) {fuel : Nat} (he : ∀ n, n + 1 = fuel → O P e d m S Q n) :
  O P t (Kd.slice e' d) (fun l => ml m l + 1) (fun l => l.length * P.bytesOf e ≤ reachBytes ∧ ∀ x ∈ l, S x) (fun l => l.length ≤ maxLen ∧ ∀ x ∈ l, Q x) fuel :=
 ⟨hc, fun {H} enc w cs x h => by
  rcases DataW.trod_slice ht h with ⟨rfl, rfl⟩ | ⟨a, len, cap, elems, rest, n, rfl, rfl, rfl, hb, hl, hm, hlen, hel, _, _⟩
  ·exact ⟨[], ⟨none, 0, rfl, Nat.le_refl _, rfl, by simp, fun hn => absurd hn (by simp)⟩, by simp [ml, Rows.uptoBulk], fun _ => ⟨by simp, by simp⟩, by simp [maxLen], by simp⟩
  ·obtain ⟨hsz, ho⟩ := he n rfl
   obtain ⟨us, h1, h2, h3⟩ := elems_of (p := fun i v => (∃ c, c.length = d.sz ∧ d.K w v c ∧ ∀ j u, c[j]? = some u → w.cell? (a.add (i * d.sz + j)) = some u) ∧ ((∀ k ∈ (elems.getD i (.nil, [])).1.weights P e, k ≤ reachBytes) → S v) ∧ Q v)
    (m := m) (D := fun i => (elems.getD i (.nil, [])).1) len (fun i hi => by
     have hi' : i < elems.length := by omega
     have hq := hel i hi
     rw [List.getElem?_eq_getElem hi'] at hq
     obtain ⟨c, hc1, hc2⟩ := Option.bind_eq_some_iff.1 hq
     obtain ⟨_, hcl, hcc⟩ := World.cells?_some hc1
     obtain ⟨v, hK, hv, hS, hQ⟩ := ho enc w c _ hc2
     have eg : elems.getD i (.nil, []) = elems[i] := by simp [List.getD, List.getElem?_eq_getElem hi']
     refine ⟨v, ⟨⟨c, by omega, hK, fun j u hj => ?_⟩, by rw [eg]; exact hS, hQ⟩, by rw [eg]; exact hv⟩
     have hjl := (List.getElem?_eq_some_iff.1 hj).1
     rw [← hj, ← hcc j (by omega), add_add, hsz])
   have emap : (List.range len).map (fun i => (elems.getD i (.nil, [])).1) = elems.map (·.1) := by
    apply List.ext_getElem?
    intro i
    rcases Nat.lt_or_ge i len with hi | hi
    ·simp [hi, List.getD, List.getElem?_eq_getElem (show i < elems.length by omega)]
    ·simp [List.getElem?_eq_none (show elems.length ≤ i by omega), List.getElem?_eq_none (show (List.range len).length ≤ i by simpa using hi)]
   rw [emap] at h3
   refine ⟨us, ⟨some a, cap, by simp only [h1], by omega, h1 ▸ rfl, ?_, fun _ => ⟨a, rfl, fun j p hj => (h2 j p hj).1⟩⟩, ?_, fun hw => ⟨?_, fun v hv => ?_⟩, ?_, fun v hv => ?_⟩
   ·simp only [maxLen] at hm; omega
   ·simp only [Rows.uptoBulk]; omega
   ·have := hw ((elems.length + rest.length) * P.bytesOf e) (by simp [DataW.weights, ht])
    exact Nat.le_trans (Nat.mul_le_mul_right _ (by omega)) this
   ·obtain ⟨i, hi⟩ := List.getElem?_of_mem hv
    have hil := (List.getElem?_eq_some_iff.1 hi).1
    have hi' : i < elems.length := by omega
    refine (h2 i v hi).2.1 (fun k hk => hw k ?_)
    have eg : elems.getD i (.nil, []) = elems[i] := by simp [List.getD, List.getElem?_eq_getElem hi']
    rw [eg] at hk
    simp only [DataW.weights, ht, List.mem_cons, List.mem_append]
    exact .inr (.inl (weightsAll_mem (List.mem_map.2 ⟨_, List.getElem_mem hi', rfl⟩) hk))
   ·omega
   ·obtain ⟨i, hi⟩ := List.getElem?_of_mem hv
    exact (h2 i v hi).2.2⟩

theorem OF.one {α : Type} {f : Field} {off : Nat} {d : Kd α} {m : α → Nat} {S Q : α → Prop} {fuel : Nat} (h : O P f.type d m S Q fuel) (ho : f.offset = off) : OF P [f] off d m S Q fuel := by
 intro H enc w cs ys hl hf
 match ys, hl with
 | [y], _ =>
  have := hf 0 f rfl
  simp only [List.getElem?_cons_zero] at this
  obtain ⟨a, hK, hm, hS, hQ⟩ := h.2 enc w _ _ this
  rw [h.1, ho] at hK
  exact ⟨a, hK, by simpa [Rows.uptoBulkAll] using hm, fun hw => hS (fun n hn => hw n (by simp [DataW.weightsEach, hn])), hQ⟩
theorem OF.cons {α β : Type} {f : Field} {fs : List Field} {off : Nat} {d : Kd α} {m : α → Nat} {S Q : α → Prop} {d' : Kd β} {m' : β → Nat} {S' Q' : β → Prop} {fuel : Nat}
  (h : O P f.type d m S Q fuel) (ho : f.offset = off) (hr : OF P fs (off + d.sz) d' m' S' Q' fuel) :
  OF P (f :: fs) off (Kd.pair d d') (fun x => m x.1 + m' x.2) (fun x => S x.1 ∧ S' x.2) (fun x => Q x.1 ∧ Q' x.2) fuel := by
 intro H enc w cs ys hl hf
 match ys, hl with
 | y :: ys, hl =>
  have h0 := hf 0 f rfl
  simp only [List.getElem?_cons_zero] at h0
  obtain ⟨a, hK, hm, hS, hQ⟩ := h.2 enc w _ _ h0
  obtain ⟨b, hK', hm', hS', hQ'⟩ := hr enc w cs ys (by simpa using hl) (fun i g hg => by have := hf (i + 1) g (by simpa using hg); simpa using this)
  rw [h.1, ho] at hK
  refine ⟨(a, b), ⟨_, _, ?_, hK, hK'⟩, by simp only [List.map_cons, Rows.uptoBulkAll]; omega, fun hw => ⟨hS (fun n hn => hw n (by simp [DataW.weightsEach, hn])), hS' (fun n hn => hw n ?_)⟩, hQ, hQ'⟩
  ·show List.take (d.sz + d'.sz) _ = _
   rw [List.take_add, List.drop_drop]
  ·simp only [List.map_cons, DataW.weightsEach, List.mem_append]
   exact .inr hn

theorem O.struct {α β : Type} {t : TypeId} {fs : Array Field} {d : Kd α} {m : α → Nat} {S Q : α → Prop} {f : β → α} (g : α → β) (hg : ∀ a, f (g a) = a) (ht : P.underlying t = some (.struct fs)) (hc : P.cellsOf t = d.sz) {fuel : Nat}
  (h : ∀ n, n + 1 = fuel → OF P fs.toList 0 d m S Q n) : O P t (Kd.iso d f) (fun x => m (f x) + 1) (fun x => S (f x)) (fun x => Q (f x)) fuel :=
 ⟨hc, fun enc w cs x hx => by
  obtain ⟨xs, n, hn, rfl, hl, hlen, hf⟩ := DataW.trod_struct ht hx
  obtain ⟨a, hK, hm, hS, hQ⟩ := h n hn.symm enc w cs xs (by simpa using hlen) (fun i fl hi => hf i fl (by simpa using hi))
  rw [List.drop_zero, ← hc, ← hl, List.take_length] at hK
  refine ⟨g a, ?_, ?_, fun hw => ?_, ?_⟩
  ·show d.K w (f (g a)) cs
   rw [hg]; exact hK
  ·simp only [hg, Rows.uptoBulk]; omega
  ·show S (f (g a))
   rw [hg]
   exact hS (fun k hk => hw k (by simp only [DataW.weights, ht]; exact hk))
  ·show Q (f (g a))
   rw [hg]; exact hQ⟩

/-- A kind weaker in what is said. -/
theorem O.imp_ {α : Type} {t : TypeId} {d d' : Kd α} {m m' : α → Nat} {S S' Q Q' : α → Prop} {fuel : Nat} (h : O P t d m S Q fuel) (hs : d'.sz = d.sz) (hK : ∀ w a cs, d.K w a cs → d'.K w a cs) (hm : ∀ a, m' a ≤ m a) (hS : ∀ a, S a → S' a) (hQ : ∀ a, Q a → Q' a) : O P t d' m' S' Q' fuel :=
 ⟨h.1.trans hs.symm, fun enc w cs x hx => by
  obtain ⟨a, h1, h2, h3, h4⟩ := h.2 enc w cs x hx
  exact ⟨a, hK _ _ _ h1, Nat.le_trans (hm a) h2, fun hw => hS a (h3 hw), hQ a h4⟩⟩

/-- THE BOUND, as the builder hands it over. -/
theorem bound {H : Type} {l : List (DataW H)} (hk : Rows.uptoSmall H l = true) : Rows.uptoBulkAll l ≤ 1048576 := of_decide_eq_true hk
end Go.Proofs.YtfonajakaimnoaaDoor.Opn


namespace Go.Proofs.YtfonajakaimnoaaDoor.placesReads
open Go.ChangeShapes Go.WideShapes Go.ChangeAt Go.RowKit
open Go.Proofs.YtfonajakaimnoaaDoorW.PrintWords Opn C11
set_option linter.unusedVariables false
set_option linter.unusedSimpArgs false
set_option maxRecDepth 100000
theorem own : ownKnob Tryd.prog.godebug = none := by kernel_rfl
theorem laidOut : laidOutB Tryd.prog = true := by kernel_rfl
theorem errors_laid {W : World} (h : laidMetH Tryd.prog Rows.placesReadsRow.laid W) : ∃ a0 a1 a2, Sen a0 a1 a2 W := by
 have h' : laidMet Tryd.prog Rows.placesReadsRow.laid W := h
 exact sen_of_laid rfl rfl rfl h'
theorem bytes25 : Tryd.prog.bytesOf 25 = 24 := by kernel_rfl
theorem bytes3 : Tryd.prog.bytesOf 3 = 8 := by kernel_rfl

theorem opened {H : Type} {enc : TypeId × Value → H} {W : World} {fuel : Nat} {cs : Array Value} {x : DataW H × List MemPlace} (h : DataW.trod enc Tryd.prog W 0 (fun _ => true) true fuel 44 cs.toList = some x) (hw : ∀ n ∈ x.1.weights Tryd.prog 44, n ≤ reachBytes) :
  ∃ (A0 : Option Addr) (c0 : Nat) (X0 : LL) (A1 : Option Addr) (c1 : Nat) (X1 : List Int) (A2 : Option Addr) (c2 : Nat) (X2 : List Int) (A3 : Option Addr) (c3 : Nat) (X3 : LL) (b : Bool) (sy : Int) (A4 : Option Addr) (c4 : Nat) (word : List Int),
   cs = #[.slice A0 X0.length c0, .slice A1 X1.length c1, .slice A2 X2.length c2, .slice A3 X3.length c3, .bool b, .int .i64 sy, .slice A4 word.length c4] ∧
   (Kd.C kL W A0 X0.length X0 ∧ X0.length ≤ c0) ∧ (Kd.C kI W A1 X1.length X1 ∧ X1.length ≤ c1) ∧ (Kd.C kI W A2 X2.length X2 ∧ X2.length ≤ c2) ∧ (Kd.C kL W A3 X3.length X3 ∧ X3.length ≤ c3) ∧ (Kd.C kI W A4 word.length word ∧ word.length ≤ c4) ∧ PB X0 X1 X2 X3 ∧ word.length ≤ 17592186043904 := by
 have o25 := fun n : Nat => O.slice (P := Tryd.prog) (e' := 3) (fuel := n) Tryd.underlying25 (by kernel_rfl) (fun n _ => O.int Tryd.underlying3 (by kernel_rfl) n)
 have o22 := fun n : Nat => O.slice (P := Tryd.prog) (e' := 3) (fuel := n) Tryd.underlying22 (by kernel_rfl) (fun n _ => o25 n)
 have o42 := fun n : Nat => O.struct (P := Tryd.prog) (t := 42) (f := id) id (fun _ => rfl) Tryd.underlying42 (by kernel_rfl) (fuel := n)
  (fun n _ => OF.cons (o22 n) rfl (OF.cons (o25 n) rfl (OF.cons (o25 n) rfl (OF.cons (o22 n) rfl (OF.one (O.bool Tryd.underlying4 (by kernel_rfl) n) rfl)))))
 have o44 := fun n : Nat => O.struct (P := Tryd.prog) (t := 44) (f := id) id (fun _ => rfl) Tryd.underlying44 (by kernel_rfl) (fuel := n)
  (fun n _ => OF.cons (o42 n) rfl (OF.cons (O.int Tryd.underlying3 (by kernel_rfl) n) rfl (OF.one (o25 n) rfl)))
 obtain ⟨⟨⟨X0, X1, X2, X3, b⟩, sy, word⟩, hK, _, hS, _⟩ := (o44 fuel).2 enc W _ _ h
 obtain ⟨_, _, e, ⟨_, _, rfl, ⟨A0, c0, rfl, h0, k0⟩, _, _, rfl, ⟨A1, c1, rfl, h1, k1⟩, _, _, rfl, ⟨A2, c2, rfl, h2, k2⟩, _, _, rfl, ⟨A3, c3, rfl, h3, k3⟩, rfl⟩, _, _, rfl, rfl, A4, c4, rfl, h4, k4⟩ := hK
 refine ⟨A0, c0, X0, A1, c1, X1, A2, c2, X2, A3, c3, X3, b, sy, A4, c4, word, by apply Array.toList_inj.1; simpa using e, ⟨k0, h0⟩, ⟨k1, h1⟩, ⟨k2, h2⟩, ⟨k3, h3⟩, ⟨k4, h4⟩, ?_⟩
 have hS' := hS hw
 obtain ⟨⟨⟨s0, r0⟩, ⟨s1, _⟩, ⟨s2, _⟩, ⟨s3, r3⟩, _⟩, _, s4, _⟩ := hS'
 simp only [bytes25, bytes3, reachBytes] at s0 r0 s1 s2 s3 r3 s4
 have t0 : X0.length * 24 ≤ 140737488351232 := s0
 have t1 : X1.length * 8 ≤ 140737488351232 := s1
 have t2 : X2.length * 8 ≤ 140737488351232 := s2
 have t3 : X3.length * 24 ≤ 140737488351232 := s3
 have t4 : word.length * 8 ≤ 140737488351232 := s4
 clear s0 s1 s2 s3 s4
 exact ⟨⟨by omega, by omega, by omega, by omega, fun l hl => by have t5 : l.length * 8 ≤ 140737488351232 := (r0 l hl).1; omega, fun l hl => by have t5 : l.length * 8 ≤ 140737488351232 := (r3 l hl).1; omega⟩, by omega⟩

theorem contract (H : Type) (enc : TypeId × Value → H) (W : World) (base : Nat) (args : Array Value) (ds gs : List (DataW H)) (before : List MemPlace)
  (hval : ∀ (j : Nat) t v, Tryd.f4.params[j]? = some t → args[j]? = some v → Value.okWide Tryd.prog W .any base t v)
  (hW : DataW.Whole enc Tryd.prog Tryd.f4.params.toList Rows.placesReadsSpec.vars false W args.toList ds gs before) (hL : laidMetH Tryd.prog Rows.placesReadsRow.laid W) (hsz : (DataW.weightsEach Tryd.prog (Tryd.f4.params.toList ++ (OpenSpec.ofChange Rows.placesReadsSpec).bare.plain.varTypes Tryd.prog) (ds ++ gs)).all (· ≤ reachBytes) = true) :
  Calls Tryd.prog 4 args W fun e W' => ∃ v, e = .returned v ∧ Rows.placesReadsSpec.post enc Tryd.prog Tryd.f4 false true false false W args v W' := by
 have hW' := hW
 obtain ⟨p, q, hA0, hV, rfl, hfz, hnd⟩ := hW
 have hA : DataW.TrodAll enc Tryd.prog W 0 (fun _ => true) true Tryd.f4.params.toList args.toList ds p := hA0
 rw [Tryd.params4] at hA hval
 obtain ⟨v0, vs0, d0, ds0, p0, q0, hargs, rfl, rfl, h0, r0⟩ := trodAll_cons hA
 obtain ⟨rfl, rfl, rfl⟩ := trodAll_nil r0
 obtain rfl : args = #[v0] := by cases args; simp_all
 obtain ⟨rfl, rfl⟩ := trodVars_none hV
 obtain ⟨cs, rfl, _⟩ := okWide_struct Tryd.underlying44 (hval 0 44 v0 rfl rfl)
 have k0 := h0
 have lt0 : ∀ x ∈ p0, x.block < W.heap.size := by obtain ⟨m, hm⟩ := k0; exact DataW.trod_lt m _ _ _ hm
 obtain ⟨fuel, hf⟩ := h0
 have hwt : ∀ n ∈ d0.weights Tryd.prog 44, n ≤ reachBytes := fun n hn => by
  have h1 := List.all_eq_true.1 hsz n (by
   rw [Tryd.params4]
   simp only [List.cons_append, DataW.weightsEach, List.mem_append]
   exact .inl hn)
  simpa using h1
 obtain ⟨A0, c0, X0, A1, c1, X1, A2, c2, X2, A3, c3, X3, b, sy, A4, c4, word, rfl, e0, e1, e2, e3, e4, hpb, hwd⟩ := opened (cs := cs) hf hwt
 obtain ⟨a0, a1, a2, hSen⟩ := errors_laid hL
 clear hA0
 refine (law_calls ⟨e0, e1, e2, e3⟩ hpb hSen b sy e4.1 e4.2 hwd).mono fun e W' ⟨he, bel⟩ => ?_
 subst he
 exact ⟨_, rfl, _, _, _, [], _, [], hW', trodAll_mk1 (shut_bool Tryd.underlying4 _), (trodAll_cons_mk (Below.trod laidOut (by kernel_rfl) (of_decide_eq_true (by kernel_rfl)) k0 bel lt0) trodAll_mk0), rfl, bel.frame _, fun h => by cases h⟩

noncomputable def low : Nat := (World.holding Tryd.prog default ⟨#[], #[], []⟩).heap.size
/-- A world for the witness: the errors laid. -/
noncomputable def laidWorld (os : Os) : World :=
 let w0 := World.holding Tryd.prog os ⟨#[.cells #[.string ⟨#[97, 32, 110, 117, 109, 98, 101, 114, 32, 111, 114, 32, 97, 110, 32, 97, 114, 103, 117, 109, 101, 110, 116, 32, 105, 115, 32, 111, 117, 116, 32, 111, 102, 32, 105, 116, 115, 32, 112, 108, 97, 99, 101]⟩] 177, .cells #[.string ⟨#[97, 32, 116, 101, 120, 116, 32, 111, 114, 32, 98, 121, 116, 101, 115, 32, 116, 104, 97, 116, 32, 99, 97, 110, 110, 111, 116, 32, 98, 101, 32, 114, 101, 97, 100]⟩] 177, .cells #[.string ⟨#[97, 98, 111, 118, 101, 32, 97, 32, 108, 105, 109, 105, 116]⟩] 177, .cells #[.string ⟨#[115, 111, 109, 101, 116, 104, 105, 110, 103, 32, 105, 115, 32, 109, 105, 115, 115, 105, 110, 103]⟩] 177, .cells #[.string ⟨#[116, 104, 101, 114, 101, 32, 116, 119, 105, 99, 101]⟩] 177, .cells #[.string ⟨#[110, 111, 116, 32, 105, 110, 32, 111, 114, 100, 101, 114]⟩] 177, .cells #[.string ⟨#[110, 111, 116, 32, 116, 104, 101, 114, 101]⟩] 177, .cells #[.string ⟨#[103, 111, 101, 115, 32, 114, 111, 117, 110, 100, 32, 105, 110, 32, 97, 32, 99, 105, 114, 99, 108, 101]⟩] 177, .cells #[.string ⟨#[116, 104, 101, 32, 115, 117, 109, 32, 100, 111, 101, 115, 32, 110, 111, 116, 32, 102, 105, 116]⟩] 177, .cells #[.string ⟨#[110, 111, 116, 32, 116, 104, 101, 32, 111, 110, 101, 32, 102, 111, 114, 109, 32, 116, 104, 97, 116, 32, 105, 115, 32, 119, 114, 105, 116, 116, 101, 110]⟩] 177, .cells #[.string ⟨#[105, 116, 32, 104, 97, 115, 32, 101, 110, 100, 101, 100]⟩] 177], #[], []⟩
 { w0 with heap := (((((((((((w0.heap.modify 0 (fun | .cells _ t frozen => .cells #[.iface 162 (.pointer (some ⟨low + 0, 0, none⟩))] t frozen | o => o)).modify 1 (fun | .cells _ t frozen => .cells #[.iface 162 (.pointer (some ⟨low + 1, 0, none⟩))] t frozen | o => o)).modify 2 (fun | .cells _ t frozen => .cells #[.iface 162 (.pointer (some ⟨low + 2, 0, none⟩))] t frozen | o => o)).modify 3 (fun | .cells _ t frozen => .cells #[.iface 162 (.pointer (some ⟨low + 3, 0, none⟩))] t frozen | o => o)).modify 4 (fun | .cells _ t frozen => .cells #[.iface 162 (.pointer (some ⟨low + 4, 0, none⟩))] t frozen | o => o)).modify 5 (fun | .cells _ t frozen => .cells #[.iface 162 (.pointer (some ⟨low + 5, 0, none⟩))] t frozen | o => o)).modify 6 (fun | .cells _ t frozen => .cells #[.iface 162 (.pointer (some ⟨low + 6, 0, none⟩))] t frozen | o => o)).modify 7 (fun | .cells _ t frozen => .cells #[.iface 162 (.pointer (some ⟨low + 7, 0, none⟩))] t frozen | o => o)).modify 8 (fun | .cells _ t frozen => .cells #[.iface 162 (.pointer (some ⟨low + 8, 0, none⟩))] t frozen | o => o)).modify 9 (fun | .cells _ t frozen => .cells #[.iface 162 (.pointer (some ⟨low + 9, 0, none⟩))] t frozen | o => o)).modify 10 (fun | .cells _ t frozen => .cells #[.iface 162 (.pointer (some ⟨low + 10, 0, none⟩))] t frozen | o => o)) }
abbrev wit : Array Value := #[.agg #[.slice none 0 0, .slice none 0 0, .slice none 0 0, .slice none 0 0, .bool false, .int .i64 0, .slice none 0 0]]
theorem laid_met (os : Os) : laidMet Tryd.prog Rows.placesReadsRow.laid ((laidWorld os).forCall (fun _ _ => 0) ⟨#[], wit, []⟩).memory :=
 laidMet_of_run' 8 (by kernel_rfl) (by kernel_rfl)

set_option maxRecDepth 100000 in
theorem lifted (os : Os) (started : os.Started) (H : Type) (enc : TypeId × Value → H) (F : Stop.Interp) :
  ReturnsInHanded {} Tryd.checked os 4 .any ((OpenSpec.ofChange Rows.placesReadsSpec).preRow enc Tryd.prog Tryd.f4 Rows.placesReadsRow.domain false Rows.placesReadsRow.laid) (((OpenSpec.ofChange Rows.placesReadsSpec).at F).post enc Tryd.prog Tryd.f4 false true false false) := by
 obtain ⟨⟨ds0, gs0, places⟩, hx⟩ := Option.isSome_iff_exists.1 (show (DataW.whole enc Tryd.prog ((laidWorld os).forCall (fun _ _ => 0) ⟨#[], wit, []⟩).memory Tryd.f4.params.toList Rows.placesReadsSpec.vars false wit.toList 8).isSome = true by kernel_rfl)
 refine returnsInHanded_of_row (C := Tryd.checked) (s := OpenSpec.ofChange Rows.placesReadsSpec) own started (by kernel_rfl) Tryd.func4
  (witness_row_at (enc := enc) (C := Tryd.checked) false (laidWorld os) wit rfl (by kernel_rfl) (by kernel_rfl) (by kernel_rfl)
   (OpenSpec.preRow_of_cond 8 hx (by kernel_rfl) (fun k hk => by cases hk) (by kernel_rfl) (laid_met os))) ?_
 intro W base args ds gs before hval hW _ _ hsz hL _ _
 exact contract H enc W base args ds gs before hval hW hL hsz
theorem said : Rows.PlacesReadsSaid :=
 OpenClaim.holds_of_cond 4 Tryd.f4 rfl rfl rfl rfl rfl rfl rfl ⟨rfl, rfl, rfl, rfl, rfl⟩ rfl rfl rfl rfl rfl (by kernel_rfl) Tryd.func4 (by kernel_rfl)
  (of_decide_eq_true (by kernel_rfl)) (by unfold Func.isWrapper; first | (rw [if_pos (by decide +kernel)]; kernel_rfl) | (rw [if_neg (by decide +kernel)]; exact ⟨rfl, rfl⟩))
  (fun os started H enc _ F => by rw [OpenClaim.pre_eq_preRow]; exact lifted os started H enc F)
theorem plain (f : FuncId) (fn : Func) (hf : Tryd.pinned.checked.prog.funcNamed "caesura/caesuralaw11.PlacesReads" = some f) (hfn : Tryd.pinned.checked.prog.funcs[f]? = some fn) :
  true = Tryd.pinned.checked.prog.looks [] ∧ ∀ (j : Nat) t, fn.params[j]? = some t → Tryd.pinned.checked.prog.wantsStandIn t = false := by
 obtain rfl : f = 4 := Option.some.inj ((show Tryd.prog.funcNamed "caesura/caesuralaw11.PlacesReads" = some 4 by kernel_rfl).symm.trans hf) |>.symm
 obtain rfl : fn = Tryd.f4 := (Option.some.inj (Tryd.func4.symm.trans hfn)).symm
 refine ⟨by kernel_rfl, fun j t ht => ?_⟩
 rw [Tryd.params4] at ht
 obtain rfl : t = 44 := by simpa using Array.mem_of_getElem? ht
 exact (show Tryd.prog.wantsStandIn 44 = false by kernel_rfl)
theorem card : Rows.PlacesReadsCardSaid :=
 Claim7.holds_tied_plain_at .later [] _ _ _ _ said (fun _ h => by cases h) (by kernel_rfl) (fun _ h => by cases h) placesReads_row_tie rfl ⟨rfl, rfl⟩ (by kernel_rfl) rfl plain (by kernel_rfl)
end Go.Proofs.YtfonajakaimnoaaDoor.placesReads
namespace Go.Proofs.YtfonajakaimnoaaDoor
/-- The card, under a short name, for the claim. -/
theorem placesReads_holds : Rows.PlacesReadsCardSaid := placesReads.card
end Go.Proofs.YtfonajakaimnoaaDoor
