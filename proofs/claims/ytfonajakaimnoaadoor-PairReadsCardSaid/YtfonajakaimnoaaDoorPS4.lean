/- Part of a proof: texts of one seat, one behind the other. -/
import Derived.Test.YtfonajakaimnoaaDoorPS1
import Derived.Test.YtfonajakaimnoaaDoorPS3
import Derived.Test.YtfonajakaimnoaaDoorPS0
import Derived.StillTailTactics

namespace Go.Proofs.YtfonajakaimnoaaDoor.Lib
open Go.RowKit Go.Proofs.YtfonajakaimnoaaDoorW.PrintWords Go.Proofs.YtfonajakaimnoaaDoorW.PrintLast Go.Proofs.YtfonajakaimnoaaDoorW.PrintMore
attribute [local go_sem] max2_int min2_int max_two min_two max_three min_three max_four min_four   -- for this text's walks alone
set_option linter.unusedVariables false
set_option linter.unusedSimpArgs false
mutual
def caesuraref0_SamePairing.j0 : Nat → Bool → Int → List (List Int) → List (List Int) → Int → List (List Int) → List (List Int) → List Bool → Bool → Int → List (List Int) → List (List Int) → Int → List (List Int) → List (List Int) → List Bool → Bool → Option (Bool)
 | 0, _, _, _, _, _, _, _, _, _, _, _, _, _, _, _, _, _ => none
 | k + 1, x39, x652000, x652001, x652002, x652003, x652004, x652005, x652006, x652007, x653000, x653001, x653002, x653003, x653004, x653005, x653006, x653007 => if x39 = true then (some false) else (caesuraref0_SamePairing.l0 k 0 x652000 x652001 x652002 x652003 x652004 x652005 x652006 x652007 x653000 x653001 x653002 x653003 x653004 x653005 x653006 x653007)
def caesuraref0_SamePairing.l0 : Nat → Int → Int → List (List Int) → List (List Int) → Int → List (List Int) → List (List Int) → List Bool → Bool → Int → List (List Int) → List (List Int) → Int → List (List Int) → List (List Int) → List Bool → Bool → Option (Bool)
 | 0, _, _, _, _, _, _, _, _, _, _, _, _, _, _, _, _, _ => none
 | k + 1, x7, x652000, x652001, x652002, x652003, x652004, x652005, x652006, x652007, x653000, x653001, x653002, x653003, x653004, x653005, x653006, x653007 => if x7 < (x652006.length : Int) then (if 0 ≤ x7 then (if x7 < (x653006.length : Int) then (if ((rdOf false x652006 x7) != (rdOf false x653006 x7)) = true then (some false) else (caesuraref0_SamePairing.l0 k (wrap64 (x7 + 1)) x652000 x652001 x652002 x652003 x652004 x652005 x652006 x652007 x653000 x653001 x653002 x653003 x653004 x653005 x653006 x653007)) else (none)) else (none)) else (some true)
end
def caesuraref0_SamePairing.f (k : Nat) (a0_0 : Int) (l0_1 : List (List Int)) (l0_2 : List (List Int)) (a0_3 : Int) (l0_4 : List (List Int)) (l0_5 : List (List Int)) (l0_6 : List Bool) (a0_7 : Bool) (a1_0 : Int) (l1_1 : List (List Int)) (l1_2 : List (List Int)) (a1_3 : Int) (l1_4 : List (List Int)) (l1_5 : List (List Int)) (l1_6 : List Bool) (a1_7 : Bool) : Option (Bool) := (caesuraref0_SameMachine.f k a0_0 l0_1 l0_2 a1_0 l1_1 l1_2).bind fun t653 => ((caesuraref0_SameMachine.f k a0_3 l0_4 l0_5 a1_3 l1_4 l1_5).bind fun t654 => (if t653 = true then (if t654 = true then (if (a0_7 != a1_7) = true then (caesuraref0_SamePairing.j0 k true a0_0 l0_1 l0_2 a0_3 l0_4 l0_5 l0_6 a0_7 a1_0 l1_1 l1_2 a1_3 l1_4 l1_5 l1_6 a1_7) else (caesuraref0_SamePairing.j0 k ((l0_6.length : Int) != (l1_6.length : Int)) a0_0 l0_1 l0_2 a0_3 l0_4 l0_5 l0_6 a0_7 a1_0 l1_1 l1_2 a1_3 l1_4 l1_5 l1_6 a1_7)) else (caesuraref0_SamePairing.j0 k true a0_0 l0_1 l0_2 a0_3 l0_4 l0_5 l0_6 a0_7 a1_0 l1_1 l1_2 a1_3 l1_4 l1_5 l1_6 a1_7)) else (caesuraref0_SamePairing.j0 k true a0_0 l0_1 l0_2 a0_3 l0_4 l0_5 l0_6 a0_7 a1_0 l1_1 l1_2 a1_3 l1_4 l1_5 l1_6 a1_7)))
set_option maxHeartbeats 8000000 in
set_option maxRecDepth 100000 in
theorem caesuraref0_SamePairing.calls (k : Nat) (a0_0 : Int) (A0_1 : Option Addr) (c0_1 : Nat) (l0_1 : List (List Int)) (A0_2 : Option Addr) (c0_2 : Nat) (l0_2 : List (List Int)) (a0_3 : Int) (A0_4 : Option Addr) (c0_4 : Nat) (l0_4 : List (List Int)) (A0_5 : Option Addr) (c0_5 : Nat) (l0_5 : List (List Int)) (A0_6 : Option Addr) (c0_6 : Nat) (l0_6 : List Bool) (a0_7 : Bool) (a1_0 : Int) (A1_1 : Option Addr) (c1_1 : Nat) (l1_1 : List (List Int)) (A1_2 : Option Addr) (c1_2 : Nat) (l1_2 : List (List Int)) (a1_3 : Int) (A1_4 : Option Addr) (c1_4 : Nat) (l1_4 : List (List Int)) (A1_5 : Option Addr) (c1_5 : Nat) (l1_5 : List (List Int)) (A1_6 : Option Addr) (c1_6 : Nat) (l1_6 : List Bool) (a1_7 : Bool) (r : Bool) (w : World) (hr0_1 : Kd.C (Kd.slice 3 (Kd.int .i64)) w A0_1 l0_1.length l0_1) (hc0_1 : l0_1.length ≤ c0_1) (hr0_2 : Kd.C (Kd.slice 3 (Kd.int .i64)) w A0_2 l0_2.length l0_2) (hc0_2 : l0_2.length ≤ c0_2) (hr0_4 : Kd.C (Kd.slice 3 (Kd.int .i64)) w A0_4 l0_4.length l0_4) (hc0_4 : l0_4.length ≤ c0_4) (hr0_5 : Kd.C (Kd.slice 3 (Kd.int .i64)) w A0_5 l0_5.length l0_5) (hc0_5 : l0_5.length ≤ c0_5) (hr0_6 : Kd.C Kd.bool w A0_6 l0_6.length l0_6) (hc0_6 : l0_6.length ≤ c0_6) (hr1_1 : Kd.C (Kd.slice 3 (Kd.int .i64)) w A1_1 l1_1.length l1_1) (hc1_1 : l1_1.length ≤ c1_1) (hr1_2 : Kd.C (Kd.slice 3 (Kd.int .i64)) w A1_2 l1_2.length l1_2) (hc1_2 : l1_2.length ≤ c1_2) (hr1_4 : Kd.C (Kd.slice 3 (Kd.int .i64)) w A1_4 l1_4.length l1_4) (hc1_4 : l1_4.length ≤ c1_4) (hr1_5 : Kd.C (Kd.slice 3 (Kd.int .i64)) w A1_5 l1_5.length l1_5) (hc1_5 : l1_5.length ≤ c1_5) (hr1_6 : Kd.C Kd.bool w A1_6 l1_6.length l1_6) (hc1_6 : l1_6.length ≤ c1_6) (h : caesuraref0_SamePairing.f k a0_0 l0_1 l0_2 a0_3 l0_4 l0_5 l0_6 a0_7 a1_0 l1_1 l1_2 a1_3 l1_4 l1_5 l1_6 a1_7 = some r) :
  Calls Tryd.prog 45 #[.agg #[.int .i64 a0_0, .slice A0_1 l0_1.length c0_1, .slice A0_2 l0_2.length c0_2, .int .i64 a0_3, .slice A0_4 l0_4.length c0_4, .slice A0_5 l0_5.length c0_5, .slice A0_6 l0_6.length c0_6, .bool a0_7], .agg #[.int .i64 a1_0, .slice A1_1 l1_1.length c1_1, .slice A1_2 l1_2.length c1_2, .int .i64 a1_3, .slice A1_4 l1_4.length c1_4, .slice A1_5 l1_5.length c1_5, .slice A1_6 l1_6.length c1_6, .bool a1_7]] w fun e w' => e = .returned (.bool r) ∧ Below w.heap.size w w' := by
 have hu60 := Tryd.underlying60
 have hu24 := Tryd.underlying24
 have HR0_1 := Aside0.mk hr0_1
 have HC0_1 := Aside0.mk hc0_1
 clear hr0_1 hc0_1
 have HR0_2 := Aside0.mk hr0_2
 have HC0_2 := Aside0.mk hc0_2
 clear hr0_2 hc0_2
 have HR0_4 := Aside0.mk hr0_4
 have HC0_4 := Aside0.mk hc0_4
 clear hr0_4 hc0_4
 have HR0_5 := Aside0.mk hr0_5
 have HC0_5 := Aside0.mk hc0_5
 clear hr0_5 hc0_5
 have HR0_6 := Aside0.mk hr0_6
 have HC0_6 := Aside0.mk hc0_6
 clear hr0_6 hc0_6
 have HR1_1 := Aside0.mk hr1_1
 have HC1_1 := Aside0.mk hc1_1
 clear hr1_1 hc1_1
 have HR1_2 := Aside0.mk hr1_2
 have HC1_2 := Aside0.mk hc1_2
 clear hr1_2 hc1_2
 have HR1_4 := Aside0.mk hr1_4
 have HC1_4 := Aside0.mk hc1_4
 clear hr1_4 hc1_4
 have HR1_5 := Aside0.mk hr1_5
 have HC1_5 := Aside0.mk hc1_5
 clear hr1_5 hc1_5
 have HR1_6 := Aside0.mk hr1_6
 have HC1_6 := Aside0.mk hc1_6
 clear hr1_6 hc1_6
 have HB := Aside0.mk (Below.refl w.heap.size w)
 have H : ((caesuraref0_SameMachine.f k a0_0 l0_1 l0_2 a1_0 l1_1 l1_2).bind fun t653 => ((caesuraref0_SameMachine.f k a0_3 l0_4 l0_5 a1_3 l1_4 l1_5).bind fun t654 => (if t653 = true then (if t654 = true then (if (a0_7 != a1_7) = true then (caesuraref0_SamePairing.j0 k true a0_0 l0_1 l0_2 a0_3 l0_4 l0_5 l0_6 a0_7 a1_0 l1_1 l1_2 a1_3 l1_4 l1_5 l1_6 a1_7) else (caesuraref0_SamePairing.j0 k ((l0_6.length : Int) != (l1_6.length : Int)) a0_0 l0_1 l0_2 a0_3 l0_4 l0_5 l0_6 a0_7 a1_0 l1_1 l1_2 a1_3 l1_4 l1_5 l1_6 a1_7)) else (caesuraref0_SamePairing.j0 k true a0_0 l0_1 l0_2 a0_3 l0_4 l0_5 l0_6 a0_7 a1_0 l1_1 l1_2 a1_3 l1_4 l1_5 l1_6 a1_7)) else (caesuraref0_SamePairing.j0 k true a0_0 l0_1 l0_2 a0_3 l0_4 l0_5 l0_6 a0_7 a1_0 l1_1 l1_2 a1_3 l1_4 l1_5 l1_6 a1_7)))) = some r := h
 clear h
 replace H := Option.bind_eq_some_iff.mp H
 obtain ⟨t653, A30, H⟩ := H
 replace H : ((caesuraref0_SameMachine.f k a0_3 l0_4 l0_5 a1_3 l1_4 l1_5).bind fun t654 => (if t653 = true then (if t654 = true then (if (a0_7 != a1_7) = true then (caesuraref0_SamePairing.j0 k true a0_0 l0_1 l0_2 a0_3 l0_4 l0_5 l0_6 a0_7 a1_0 l1_1 l1_2 a1_3 l1_4 l1_5 l1_6 a1_7) else (caesuraref0_SamePairing.j0 k ((l0_6.length : Int) != (l1_6.length : Int)) a0_0 l0_1 l0_2 a0_3 l0_4 l0_5 l0_6 a0_7 a1_0 l1_1 l1_2 a1_3 l1_4 l1_5 l1_6 a1_7)) else (caesuraref0_SamePairing.j0 k true a0_0 l0_1 l0_2 a0_3 l0_4 l0_5 l0_6 a0_7 a1_0 l1_1 l1_2 a1_3 l1_4 l1_5 l1_6 a1_7)) else (caesuraref0_SamePairing.j0 k true a0_0 l0_1 l0_2 a0_3 l0_4 l0_5 l0_6 a0_7 a1_0 l1_1 l1_2 a1_3 l1_4 l1_5 l1_6 a1_7))) = some r := H
 have A3 := Aside0.mk A30
 clear A30
 replace H := Option.bind_eq_some_iff.mp H
 obtain ⟨t654, A40, H⟩ := H
 replace H : (if t653 = true then (if t654 = true then (if (a0_7 != a1_7) = true then (caesuraref0_SamePairing.j0 k true a0_0 l0_1 l0_2 a0_3 l0_4 l0_5 l0_6 a0_7 a1_0 l1_1 l1_2 a1_3 l1_4 l1_5 l1_6 a1_7) else (caesuraref0_SamePairing.j0 k ((l0_6.length : Int) != (l1_6.length : Int)) a0_0 l0_1 l0_2 a0_3 l0_4 l0_5 l0_6 a0_7 a1_0 l1_1 l1_2 a1_3 l1_4 l1_5 l1_6 a1_7)) else (caesuraref0_SamePairing.j0 k true a0_0 l0_1 l0_2 a0_3 l0_4 l0_5 l0_6 a0_7 a1_0 l1_1 l1_2 a1_3 l1_4 l1_5 l1_6 a1_7)) else (caesuraref0_SamePairing.j0 k true a0_0 l0_1 l0_2 a0_3 l0_4 l0_5 l0_6 a0_7 a1_0 l1_1 l1_2 a1_3 l1_4 l1_5 l1_6 a1_7)) = some r := H
 have A4 := Aside0.mk A40
 clear A40
 have HC5 := Aside0.mk H
 clear H
 go_enter Tryd.func45, Tryd.ntmps45
 go_upto_region 3 with (first | ((with_reducible refine gate_dst (N := 2) rfl ?_); (try (refine gate_guard (by rfl) ?_; dsimp only)); refine box_event ?hg (N := 2) ?hd (cs := #[.int .i64 a0_0, .slice A0_1 l0_1.length c0_1, .slice A0_2 l0_2.length c0_2, .int .i64 a0_3, .slice A0_4 l0_4.length c0_4, .slice A0_5 l0_5.length c0_5, .slice A0_6 l0_6.length c0_6, .bool a0_7]) (t := 60) ?hr ?_; (case hd => rfl); (case hg => rfl); (case hr => first | (go_simp; done) | (go_simp; rfl)); intro gb651 hg w6 hbox hb; have n0_ := Aside0.mk (below_step (by repeat (first | (with_reducible first | exact HB.out | apply below_alloc | apply pw_below_drewN | apply below_drew1) | exact HB.out)) hb); have n1_ := Aside0.mk (hbox); have n2_ := Aside0.mk ((by rw [hg]; exact (below_size (by repeat (first | (with_reducible first | exact HB.out | apply below_alloc | apply pw_below_drewN | apply below_drew1) | exact HB.out))) : w.heap.size ≤ gb651)); have n3_ := Aside0.mk ((by rw [hg]; exact (below_size (by repeat (first | (with_reducible first | exact HB.out | apply below_alloc | apply pw_below_drewN | apply below_drew1) | exact HB.out))) : w.heap.size ≤ gb651)); clear HB; have HB := n0_; have BK651 := n1_; have GW651 := n2_; have GE651 := n3_; clear n0_ n1_ n2_ n3_; clear hb hbox hg) | ((with_reducible refine gate_dst (N := 3) rfl ?_); (try (refine gate_guard (by rfl) ?_; dsimp only)); refine box_event ?hg (N := 3) ?hd (cs := #[.int .i64 a1_0, .slice A1_1 l1_1.length c1_1, .slice A1_2 l1_2.length c1_2, .int .i64 a1_3, .slice A1_4 l1_4.length c1_4, .slice A1_5 l1_5.length c1_5, .slice A1_6 l1_6.length c1_6, .bool a1_7]) (t := 60) ?hr ?_; (case hd => rfl); (case hg => rfl); (case hr => first | (go_simp; done) | (go_simp; rfl)); intro gb652 hg w7 hbox hb; have n0_ := Aside0.mk (blk_below (g := gb651) (o := .cells #[.int .i64 a0_0, .slice A0_1 l0_1.length c0_1, .slice A0_2 l0_2.length c0_2, .int .i64 a0_3, .slice A0_4 l0_4.length c0_4, .slice A0_5 l0_5.length c0_5, .slice A0_6 l0_6.length c0_6, .bool a0_7] 60 (0, 0)) (by (with_reducible repeat (first | refine blk_drewN ?_ _ | refine blk_drew ?_ | refine blk_alloc ?_ _)); exact BK651.out) hb); have n1_ := Aside0.mk (below_step (by repeat (first | (with_reducible first | exact HB.out | apply below_alloc | apply pw_below_drewN | apply below_drew1 | refine below_set ?_ GE651.out) | exact HB.out)) hb); have n2_ := Aside0.mk (hbox); have n3_ := Aside0.mk ((by rw [hg]; exact (below_size (by repeat (first | (with_reducible first | exact HB.out | apply below_alloc | apply pw_below_drewN | apply below_drew1 | refine below_set ?_ GE651.out) | exact HB.out))) : w.heap.size ≤ gb652)); have n4_ := Aside0.mk ((by rw [hg]; exact (below_size (by repeat (first | (with_reducible first | exact HB.out | apply below_alloc | apply pw_below_drewN | apply below_drew1 | refine below_set ?_ GE651.out) | exact HB.out))) : w.heap.size ≤ gb652)); have n5_ := Aside0.mk ((by rw [hg]; exact Nat.ne_of_lt (blk_lt (g := gb651) (o := .cells #[.int .i64 a0_0, .slice A0_1 l0_1.length c0_1, .slice A0_2 l0_2.length c0_2, .int .i64 a0_3, .slice A0_4 l0_4.length c0_4, .slice A0_5 l0_5.length c0_5, .slice A0_6 l0_6.length c0_6, .bool a0_7] 60 (0, 0)) (by (with_reducible repeat (first | refine blk_drewN ?_ _ | refine blk_drew ?_ | refine blk_alloc ?_ _)); exact BK651.out)) : gb651 ≠ gb652)); have n6_ := Aside0.mk ((by rw [hg]; exact Nat.ne_of_gt (blk_lt (g := gb651) (o := .cells #[.int .i64 a0_0, .slice A0_1 l0_1.length c0_1, .slice A0_2 l0_2.length c0_2, .int .i64 a0_3, .slice A0_4 l0_4.length c0_4, .slice A0_5 l0_5.length c0_5, .slice A0_6 l0_6.length c0_6, .bool a0_7] 60 (0, 0)) (by (with_reducible repeat (first | refine blk_drewN ?_ _ | refine blk_drew ?_ | refine blk_alloc ?_ _)); exact BK651.out)) : gb652 ≠ gb651)); clear BK651; clear HB; have BK651 := n0_; have HB := n1_; have BK652 := n2_; have GW652 := n3_; have GE652 := n4_; have NB651_652 := n5_; have NB652_651 := n6_; clear n0_ n1_ n2_ n3_ n4_ n5_ n6_; clear hb hbox hg; have hnb8 := NB651_652.out; have hnc8 := NB652_651.out; have hcz9_0 : w7.cell? ⟨gb651, 0, none⟩ = some (.int .i64 a0_0) := (blk_cell BK651.out 0).trans rfl; have hcz9_1 : w7.cell? ⟨gb651, 1, none⟩ = some (.slice A0_1 l0_1.length c0_1) := (blk_cell BK651.out 1).trans rfl; have hcz9_2 : w7.cell? ⟨gb651, 2, none⟩ = some (.slice A0_2 l0_2.length c0_2) := (blk_cell BK651.out 2).trans rfl; have hcz9_3 : w7.cell? ⟨gb651, 3, none⟩ = some (.int .i64 a0_3) := (blk_cell BK651.out 3).trans rfl; have hcz9_4 : w7.cell? ⟨gb651, 4, none⟩ = some (.slice A0_4 l0_4.length c0_4) := (blk_cell BK651.out 4).trans rfl; have hcz9_5 : w7.cell? ⟨gb651, 5, none⟩ = some (.slice A0_5 l0_5.length c0_5) := (blk_cell BK651.out 5).trans rfl; have hcz9_6 : w7.cell? ⟨gb651, 6, none⟩ = some (.slice A0_6 l0_6.length c0_6) := (blk_cell BK651.out 6).trans rfl; have hcz9_7 : w7.cell? ⟨gb651, 7, none⟩ = some (.bool a0_7) := (blk_cell BK651.out 7).trans rfl; have hfz9_0 := blk_frozen BK651.out 0; have hfz9_1 := blk_frozen BK651.out 1; have hfz9_2 := blk_frozen BK651.out 2; have hfz9_3 := blk_frozen BK651.out 3; have hfz9_4 := blk_frozen BK651.out 4; have hfz9_5 := blk_frozen BK651.out 5; have hfz9_6 := blk_frozen BK651.out 6; have hfz9_7 := blk_frozen BK651.out 7; have hcz10_0 : w7.cell? ⟨gb652, 0, none⟩ = some (.int .i64 a1_0) := (blk_cell BK652.out 0).trans rfl; have hcz10_1 : w7.cell? ⟨gb652, 1, none⟩ = some (.slice A1_1 l1_1.length c1_1) := (blk_cell BK652.out 1).trans rfl; have hcz10_2 : w7.cell? ⟨gb652, 2, none⟩ = some (.slice A1_2 l1_2.length c1_2) := (blk_cell BK652.out 2).trans rfl; have hcz10_3 : w7.cell? ⟨gb652, 3, none⟩ = some (.int .i64 a1_3) := (blk_cell BK652.out 3).trans rfl; have hcz10_4 : w7.cell? ⟨gb652, 4, none⟩ = some (.slice A1_4 l1_4.length c1_4) := (blk_cell BK652.out 4).trans rfl; have hcz10_5 : w7.cell? ⟨gb652, 5, none⟩ = some (.slice A1_5 l1_5.length c1_5) := (blk_cell BK652.out 5).trans rfl; have hcz10_6 : w7.cell? ⟨gb652, 6, none⟩ = some (.slice A1_6 l1_6.length c1_6) := (blk_cell BK652.out 6).trans rfl; have hcz10_7 : w7.cell? ⟨gb652, 7, none⟩ = some (.bool a1_7) := (blk_cell BK652.out 7).trans rfl; have hfz10_0 := blk_frozen BK652.out 0; have hfz10_1 := blk_frozen BK652.out 1; have hfz10_2 := blk_frozen BK652.out 2; have hfz10_3 := blk_frozen BK652.out 3; have hfz10_4 := blk_frozen BK652.out 4; have hfz10_5 := blk_frozen BK652.out 5; have hfz10_6 := blk_frozen BK652.out 6; have hfz10_7 := blk_frozen BK652.out 7) | (go_at_call 58; (with_reducible refine (caesuraref0_SameMachine.calls k a0_0 _ _ l0_1 _ _ l0_2 a1_0 _ _ l1_1 _ _ l1_2 t653 _ ?side1 ?side2 ?side3 ?side4 ?side5 ?side6 ?side7 ?side8 A3.out).mono ?_); (case side1 => repeat (first | exact (Kd.C_below HR0_1.out HB.out) | (with_reducible refine Kd.C_alloc ?_ _) | (with_reducible refine Kd.C_drewN ?_ _) | (with_reducible refine Kd.C_drew ?_))); (case side2 => exact HC0_1.out); (case side3 => repeat (first | exact (Kd.C_below HR0_2.out HB.out) | (with_reducible refine Kd.C_alloc ?_ _) | (with_reducible refine Kd.C_drewN ?_ _) | (with_reducible refine Kd.C_drew ?_))); (case side4 => exact HC0_2.out); (case side5 => repeat (first | exact (Kd.C_below HR1_1.out HB.out) | (with_reducible refine Kd.C_alloc ?_ _) | (with_reducible refine Kd.C_drewN ?_ _) | (with_reducible refine Kd.C_drew ?_))); (case side6 => exact HC1_1.out); (case side7 => repeat (first | exact (Kd.C_below HR1_2.out HB.out) | (with_reducible refine Kd.C_alloc ?_ _) | (with_reducible refine Kd.C_drewN ?_ _) | (with_reducible refine Kd.C_drew ?_))); (case side8 => exact HC1_2.out); rintro e w11 ⟨rfl, hb⟩; have n0_ := Aside0.mk (blk_below (g := gb651) (o := .cells #[.int .i64 a0_0, .slice A0_1 l0_1.length c0_1, .slice A0_2 l0_2.length c0_2, .int .i64 a0_3, .slice A0_4 l0_4.length c0_4, .slice A0_5 l0_5.length c0_5, .slice A0_6 l0_6.length c0_6, .bool a0_7] 60 (0, 0)) (by (with_reducible repeat (first | refine blk_drewN ?_ _ | refine blk_drew ?_ | refine blk_alloc ?_ _)); exact BK651.out) hb); have n1_ := Aside0.mk (blk_below (g := gb652) (o := .cells #[.int .i64 a1_0, .slice A1_1 l1_1.length c1_1, .slice A1_2 l1_2.length c1_2, .int .i64 a1_3, .slice A1_4 l1_4.length c1_4, .slice A1_5 l1_5.length c1_5, .slice A1_6 l1_6.length c1_6, .bool a1_7] 60 (0, 0)) (by (with_reducible repeat (first | refine blk_drewN ?_ _ | refine blk_drew ?_ | refine blk_alloc ?_ _)); exact BK652.out) hb); have n2_ := Aside0.mk (below_step (by repeat (first | (with_reducible first | exact HB.out | apply below_alloc | apply pw_below_drewN | apply below_drew1 | refine below_set ?_ GE651.out | refine below_set ?_ GE652.out) | exact HB.out)) hb); clear BK651; clear BK652; clear HB; have BK651 := n0_; have BK652 := n1_; have HB := n2_; clear n0_ n1_ n2_; (try clear hb); (try clear hb2); (try clear hk); (try clear hi); have hcz12_0 : w11.cell? ⟨gb651, 0, none⟩ = some (.int .i64 a0_0) := (blk_cell BK651.out 0).trans rfl; have hcz12_1 : w11.cell? ⟨gb651, 1, none⟩ = some (.slice A0_1 l0_1.length c0_1) := (blk_cell BK651.out 1).trans rfl; have hcz12_2 : w11.cell? ⟨gb651, 2, none⟩ = some (.slice A0_2 l0_2.length c0_2) := (blk_cell BK651.out 2).trans rfl; have hcz12_3 : w11.cell? ⟨gb651, 3, none⟩ = some (.int .i64 a0_3) := (blk_cell BK651.out 3).trans rfl; have hcz12_4 : w11.cell? ⟨gb651, 4, none⟩ = some (.slice A0_4 l0_4.length c0_4) := (blk_cell BK651.out 4).trans rfl; have hcz12_5 : w11.cell? ⟨gb651, 5, none⟩ = some (.slice A0_5 l0_5.length c0_5) := (blk_cell BK651.out 5).trans rfl; have hcz12_6 : w11.cell? ⟨gb651, 6, none⟩ = some (.slice A0_6 l0_6.length c0_6) := (blk_cell BK651.out 6).trans rfl; have hcz12_7 : w11.cell? ⟨gb651, 7, none⟩ = some (.bool a0_7) := (blk_cell BK651.out 7).trans rfl; have hfz12_0 := blk_frozen BK651.out 0; have hfz12_1 := blk_frozen BK651.out 1; have hfz12_2 := blk_frozen BK651.out 2; have hfz12_3 := blk_frozen BK651.out 3; have hfz12_4 := blk_frozen BK651.out 4; have hfz12_5 := blk_frozen BK651.out 5; have hfz12_6 := blk_frozen BK651.out 6; have hfz12_7 := blk_frozen BK651.out 7; have hcz13_0 : w11.cell? ⟨gb652, 0, none⟩ = some (.int .i64 a1_0) := (blk_cell BK652.out 0).trans rfl; have hcz13_1 : w11.cell? ⟨gb652, 1, none⟩ = some (.slice A1_1 l1_1.length c1_1) := (blk_cell BK652.out 1).trans rfl; have hcz13_2 : w11.cell? ⟨gb652, 2, none⟩ = some (.slice A1_2 l1_2.length c1_2) := (blk_cell BK652.out 2).trans rfl; have hcz13_3 : w11.cell? ⟨gb652, 3, none⟩ = some (.int .i64 a1_3) := (blk_cell BK652.out 3).trans rfl; have hcz13_4 : w11.cell? ⟨gb652, 4, none⟩ = some (.slice A1_4 l1_4.length c1_4) := (blk_cell BK652.out 4).trans rfl; have hcz13_5 : w11.cell? ⟨gb652, 5, none⟩ = some (.slice A1_5 l1_5.length c1_5) := (blk_cell BK652.out 5).trans rfl; have hcz13_6 : w11.cell? ⟨gb652, 6, none⟩ = some (.slice A1_6 l1_6.length c1_6) := (blk_cell BK652.out 6).trans rfl; have hcz13_7 : w11.cell? ⟨gb652, 7, none⟩ = some (.bool a1_7) := (blk_cell BK652.out 7).trans rfl; have hfz13_0 := blk_frozen BK652.out 0; have hfz13_1 := blk_frozen BK652.out 1; have hfz13_2 := blk_frozen BK652.out 2; have hfz13_3 := blk_frozen BK652.out 3; have hfz13_4 := blk_frozen BK652.out 4; have hfz13_5 := blk_frozen BK652.out 5; have hfz13_6 := blk_frozen BK652.out 6; have hfz13_7 := blk_frozen BK652.out 7) | (go_at_call 58; (with_reducible refine (caesuraref0_SameMachine.calls k a0_3 _ _ l0_4 _ _ l0_5 a1_3 _ _ l1_4 _ _ l1_5 t654 _ ?side1 ?side2 ?side3 ?side4 ?side5 ?side6 ?side7 ?side8 A4.out).mono ?_); (case side1 => repeat (first | exact (Kd.C_below HR0_4.out HB.out) | (with_reducible refine Kd.C_alloc ?_ _) | (with_reducible refine Kd.C_drewN ?_ _) | (with_reducible refine Kd.C_drew ?_))); (case side2 => exact HC0_4.out); (case side3 => repeat (first | exact (Kd.C_below HR0_5.out HB.out) | (with_reducible refine Kd.C_alloc ?_ _) | (with_reducible refine Kd.C_drewN ?_ _) | (with_reducible refine Kd.C_drew ?_))); (case side4 => exact HC0_5.out); (case side5 => repeat (first | exact (Kd.C_below HR1_4.out HB.out) | (with_reducible refine Kd.C_alloc ?_ _) | (with_reducible refine Kd.C_drewN ?_ _) | (with_reducible refine Kd.C_drew ?_))); (case side6 => exact HC1_4.out); (case side7 => repeat (first | exact (Kd.C_below HR1_5.out HB.out) | (with_reducible refine Kd.C_alloc ?_ _) | (with_reducible refine Kd.C_drewN ?_ _) | (with_reducible refine Kd.C_drew ?_))); (case side8 => exact HC1_5.out); rintro e w14 ⟨rfl, hb⟩; have n0_ := Aside0.mk (blk_below (g := gb651) (o := .cells #[.int .i64 a0_0, .slice A0_1 l0_1.length c0_1, .slice A0_2 l0_2.length c0_2, .int .i64 a0_3, .slice A0_4 l0_4.length c0_4, .slice A0_5 l0_5.length c0_5, .slice A0_6 l0_6.length c0_6, .bool a0_7] 60 (0, 0)) (by (with_reducible repeat (first | refine blk_drewN ?_ _ | refine blk_drew ?_ | refine blk_alloc ?_ _)); exact BK651.out) hb); have n1_ := Aside0.mk (blk_below (g := gb652) (o := .cells #[.int .i64 a1_0, .slice A1_1 l1_1.length c1_1, .slice A1_2 l1_2.length c1_2, .int .i64 a1_3, .slice A1_4 l1_4.length c1_4, .slice A1_5 l1_5.length c1_5, .slice A1_6 l1_6.length c1_6, .bool a1_7] 60 (0, 0)) (by (with_reducible repeat (first | refine blk_drewN ?_ _ | refine blk_drew ?_ | refine blk_alloc ?_ _)); exact BK652.out) hb); have n2_ := Aside0.mk (below_step (by repeat (first | (with_reducible first | exact HB.out | apply below_alloc | apply pw_below_drewN | apply below_drew1 | refine below_set ?_ GE651.out | refine below_set ?_ GE652.out) | exact HB.out)) hb); clear BK651; clear BK652; clear HB; have BK651 := n0_; have BK652 := n1_; have HB := n2_; clear n0_ n1_ n2_; (try clear hb); (try clear hb2); (try clear hk); (try clear hi)))
 repeat (go_quiet (first | ((with_reducible refine gate_dst (N := 2) rfl ?_); (try (refine gate_guard (by rfl) ?_; dsimp only)); refine box_event ?hg (N := 2) ?hd (cs := #[.int .i64 a0_0, .slice A0_1 l0_1.length c0_1, .slice A0_2 l0_2.length c0_2, .int .i64 a0_3, .slice A0_4 l0_4.length c0_4, .slice A0_5 l0_5.length c0_5, .slice A0_6 l0_6.length c0_6, .bool a0_7]) (t := 60) ?hr ?_; (case hd => rfl); (case hg => rfl); (case hr => first | (go_simp; done) | (go_simp; rfl)); intro gb651 hg w6 hbox hb; have n0_ := Aside0.mk (below_step (by repeat (first | (with_reducible first | exact HB.out | apply below_alloc | apply pw_below_drewN | apply below_drew1) | exact HB.out)) hb); have n1_ := Aside0.mk (hbox); have n2_ := Aside0.mk ((by rw [hg]; exact (below_size (by repeat (first | (with_reducible first | exact HB.out | apply below_alloc | apply pw_below_drewN | apply below_drew1) | exact HB.out))) : w.heap.size ≤ gb651)); have n3_ := Aside0.mk ((by rw [hg]; exact (below_size (by repeat (first | (with_reducible first | exact HB.out | apply below_alloc | apply pw_below_drewN | apply below_drew1) | exact HB.out))) : w.heap.size ≤ gb651)); clear HB; have HB := n0_; have BK651 := n1_; have GW651 := n2_; have GE651 := n3_; clear n0_ n1_ n2_ n3_; clear hb hbox hg) | ((with_reducible refine gate_dst (N := 3) rfl ?_); (try (refine gate_guard (by rfl) ?_; dsimp only)); refine box_event ?hg (N := 3) ?hd (cs := #[.int .i64 a1_0, .slice A1_1 l1_1.length c1_1, .slice A1_2 l1_2.length c1_2, .int .i64 a1_3, .slice A1_4 l1_4.length c1_4, .slice A1_5 l1_5.length c1_5, .slice A1_6 l1_6.length c1_6, .bool a1_7]) (t := 60) ?hr ?_; (case hd => rfl); (case hg => rfl); (case hr => first | (go_simp; done) | (go_simp; rfl)); intro gb652 hg w7 hbox hb; have n0_ := Aside0.mk (blk_below (g := gb651) (o := .cells #[.int .i64 a0_0, .slice A0_1 l0_1.length c0_1, .slice A0_2 l0_2.length c0_2, .int .i64 a0_3, .slice A0_4 l0_4.length c0_4, .slice A0_5 l0_5.length c0_5, .slice A0_6 l0_6.length c0_6, .bool a0_7] 60 (0, 0)) (by (with_reducible repeat (first | refine blk_drewN ?_ _ | refine blk_drew ?_ | refine blk_alloc ?_ _)); exact BK651.out) hb); have n1_ := Aside0.mk (below_step (by repeat (first | (with_reducible first | exact HB.out | apply below_alloc | apply pw_below_drewN | apply below_drew1 | refine below_set ?_ GE651.out) | exact HB.out)) hb); have n2_ := Aside0.mk (hbox); have n3_ := Aside0.mk ((by rw [hg]; exact (below_size (by repeat (first | (with_reducible first | exact HB.out | apply below_alloc | apply pw_below_drewN | apply below_drew1 | refine below_set ?_ GE651.out) | exact HB.out))) : w.heap.size ≤ gb652)); have n4_ := Aside0.mk ((by rw [hg]; exact (below_size (by repeat (first | (with_reducible first | exact HB.out | apply below_alloc | apply pw_below_drewN | apply below_drew1 | refine below_set ?_ GE651.out) | exact HB.out))) : w.heap.size ≤ gb652)); have n5_ := Aside0.mk ((by rw [hg]; exact Nat.ne_of_lt (blk_lt (g := gb651) (o := .cells #[.int .i64 a0_0, .slice A0_1 l0_1.length c0_1, .slice A0_2 l0_2.length c0_2, .int .i64 a0_3, .slice A0_4 l0_4.length c0_4, .slice A0_5 l0_5.length c0_5, .slice A0_6 l0_6.length c0_6, .bool a0_7] 60 (0, 0)) (by (with_reducible repeat (first | refine blk_drewN ?_ _ | refine blk_drew ?_ | refine blk_alloc ?_ _)); exact BK651.out)) : gb651 ≠ gb652)); have n6_ := Aside0.mk ((by rw [hg]; exact Nat.ne_of_gt (blk_lt (g := gb651) (o := .cells #[.int .i64 a0_0, .slice A0_1 l0_1.length c0_1, .slice A0_2 l0_2.length c0_2, .int .i64 a0_3, .slice A0_4 l0_4.length c0_4, .slice A0_5 l0_5.length c0_5, .slice A0_6 l0_6.length c0_6, .bool a0_7] 60 (0, 0)) (by (with_reducible repeat (first | refine blk_drewN ?_ _ | refine blk_drew ?_ | refine blk_alloc ?_ _)); exact BK651.out)) : gb652 ≠ gb651)); clear BK651; clear HB; have BK651 := n0_; have HB := n1_; have BK652 := n2_; have GW652 := n3_; have GE652 := n4_; have NB651_652 := n5_; have NB652_651 := n6_; clear n0_ n1_ n2_ n3_ n4_ n5_ n6_; clear hb hbox hg; have hnb8 := NB651_652.out; have hnc8 := NB652_651.out; have hcz9_0 : w7.cell? ⟨gb651, 0, none⟩ = some (.int .i64 a0_0) := (blk_cell BK651.out 0).trans rfl; have hcz9_1 : w7.cell? ⟨gb651, 1, none⟩ = some (.slice A0_1 l0_1.length c0_1) := (blk_cell BK651.out 1).trans rfl; have hcz9_2 : w7.cell? ⟨gb651, 2, none⟩ = some (.slice A0_2 l0_2.length c0_2) := (blk_cell BK651.out 2).trans rfl; have hcz9_3 : w7.cell? ⟨gb651, 3, none⟩ = some (.int .i64 a0_3) := (blk_cell BK651.out 3).trans rfl; have hcz9_4 : w7.cell? ⟨gb651, 4, none⟩ = some (.slice A0_4 l0_4.length c0_4) := (blk_cell BK651.out 4).trans rfl; have hcz9_5 : w7.cell? ⟨gb651, 5, none⟩ = some (.slice A0_5 l0_5.length c0_5) := (blk_cell BK651.out 5).trans rfl; have hcz9_6 : w7.cell? ⟨gb651, 6, none⟩ = some (.slice A0_6 l0_6.length c0_6) := (blk_cell BK651.out 6).trans rfl; have hcz9_7 : w7.cell? ⟨gb651, 7, none⟩ = some (.bool a0_7) := (blk_cell BK651.out 7).trans rfl; have hfz9_0 := blk_frozen BK651.out 0; have hfz9_1 := blk_frozen BK651.out 1; have hfz9_2 := blk_frozen BK651.out 2; have hfz9_3 := blk_frozen BK651.out 3; have hfz9_4 := blk_frozen BK651.out 4; have hfz9_5 := blk_frozen BK651.out 5; have hfz9_6 := blk_frozen BK651.out 6; have hfz9_7 := blk_frozen BK651.out 7; have hcz10_0 : w7.cell? ⟨gb652, 0, none⟩ = some (.int .i64 a1_0) := (blk_cell BK652.out 0).trans rfl; have hcz10_1 : w7.cell? ⟨gb652, 1, none⟩ = some (.slice A1_1 l1_1.length c1_1) := (blk_cell BK652.out 1).trans rfl; have hcz10_2 : w7.cell? ⟨gb652, 2, none⟩ = some (.slice A1_2 l1_2.length c1_2) := (blk_cell BK652.out 2).trans rfl; have hcz10_3 : w7.cell? ⟨gb652, 3, none⟩ = some (.int .i64 a1_3) := (blk_cell BK652.out 3).trans rfl; have hcz10_4 : w7.cell? ⟨gb652, 4, none⟩ = some (.slice A1_4 l1_4.length c1_4) := (blk_cell BK652.out 4).trans rfl; have hcz10_5 : w7.cell? ⟨gb652, 5, none⟩ = some (.slice A1_5 l1_5.length c1_5) := (blk_cell BK652.out 5).trans rfl; have hcz10_6 : w7.cell? ⟨gb652, 6, none⟩ = some (.slice A1_6 l1_6.length c1_6) := (blk_cell BK652.out 6).trans rfl; have hcz10_7 : w7.cell? ⟨gb652, 7, none⟩ = some (.bool a1_7) := (blk_cell BK652.out 7).trans rfl; have hfz10_0 := blk_frozen BK652.out 0; have hfz10_1 := blk_frozen BK652.out 1; have hfz10_2 := blk_frozen BK652.out 2; have hfz10_3 := blk_frozen BK652.out 3; have hfz10_4 := blk_frozen BK652.out 4; have hfz10_5 := blk_frozen BK652.out 5; have hfz10_6 := blk_frozen BK652.out 6; have hfz10_7 := blk_frozen BK652.out 7) | (go_at_call 58; (with_reducible refine (caesuraref0_SameMachine.calls k a0_0 _ _ l0_1 _ _ l0_2 a1_0 _ _ l1_1 _ _ l1_2 t653 _ ?side1 ?side2 ?side3 ?side4 ?side5 ?side6 ?side7 ?side8 A3.out).mono ?_); (case side1 => repeat (first | exact (Kd.C_below HR0_1.out HB.out) | (with_reducible refine Kd.C_alloc ?_ _) | (with_reducible refine Kd.C_drewN ?_ _) | (with_reducible refine Kd.C_drew ?_))); (case side2 => exact HC0_1.out); (case side3 => repeat (first | exact (Kd.C_below HR0_2.out HB.out) | (with_reducible refine Kd.C_alloc ?_ _) | (with_reducible refine Kd.C_drewN ?_ _) | (with_reducible refine Kd.C_drew ?_))); (case side4 => exact HC0_2.out); (case side5 => repeat (first | exact (Kd.C_below HR1_1.out HB.out) | (with_reducible refine Kd.C_alloc ?_ _) | (with_reducible refine Kd.C_drewN ?_ _) | (with_reducible refine Kd.C_drew ?_))); (case side6 => exact HC1_1.out); (case side7 => repeat (first | exact (Kd.C_below HR1_2.out HB.out) | (with_reducible refine Kd.C_alloc ?_ _) | (with_reducible refine Kd.C_drewN ?_ _) | (with_reducible refine Kd.C_drew ?_))); (case side8 => exact HC1_2.out); rintro e w11 ⟨rfl, hb⟩; have n0_ := Aside0.mk (blk_below (g := gb651) (o := .cells #[.int .i64 a0_0, .slice A0_1 l0_1.length c0_1, .slice A0_2 l0_2.length c0_2, .int .i64 a0_3, .slice A0_4 l0_4.length c0_4, .slice A0_5 l0_5.length c0_5, .slice A0_6 l0_6.length c0_6, .bool a0_7] 60 (0, 0)) (by (with_reducible repeat (first | refine blk_drewN ?_ _ | refine blk_drew ?_ | refine blk_alloc ?_ _)); exact BK651.out) hb); have n1_ := Aside0.mk (blk_below (g := gb652) (o := .cells #[.int .i64 a1_0, .slice A1_1 l1_1.length c1_1, .slice A1_2 l1_2.length c1_2, .int .i64 a1_3, .slice A1_4 l1_4.length c1_4, .slice A1_5 l1_5.length c1_5, .slice A1_6 l1_6.length c1_6, .bool a1_7] 60 (0, 0)) (by (with_reducible repeat (first | refine blk_drewN ?_ _ | refine blk_drew ?_ | refine blk_alloc ?_ _)); exact BK652.out) hb); have n2_ := Aside0.mk (below_step (by repeat (first | (with_reducible first | exact HB.out | apply below_alloc | apply pw_below_drewN | apply below_drew1 | refine below_set ?_ GE651.out | refine below_set ?_ GE652.out) | exact HB.out)) hb); clear BK651; clear BK652; clear HB; have BK651 := n0_; have BK652 := n1_; have HB := n2_; clear n0_ n1_ n2_; (try clear hb); (try clear hb2); (try clear hk); (try clear hi); have hcz12_0 : w11.cell? ⟨gb651, 0, none⟩ = some (.int .i64 a0_0) := (blk_cell BK651.out 0).trans rfl; have hcz12_1 : w11.cell? ⟨gb651, 1, none⟩ = some (.slice A0_1 l0_1.length c0_1) := (blk_cell BK651.out 1).trans rfl; have hcz12_2 : w11.cell? ⟨gb651, 2, none⟩ = some (.slice A0_2 l0_2.length c0_2) := (blk_cell BK651.out 2).trans rfl; have hcz12_3 : w11.cell? ⟨gb651, 3, none⟩ = some (.int .i64 a0_3) := (blk_cell BK651.out 3).trans rfl; have hcz12_4 : w11.cell? ⟨gb651, 4, none⟩ = some (.slice A0_4 l0_4.length c0_4) := (blk_cell BK651.out 4).trans rfl; have hcz12_5 : w11.cell? ⟨gb651, 5, none⟩ = some (.slice A0_5 l0_5.length c0_5) := (blk_cell BK651.out 5).trans rfl; have hcz12_6 : w11.cell? ⟨gb651, 6, none⟩ = some (.slice A0_6 l0_6.length c0_6) := (blk_cell BK651.out 6).trans rfl; have hcz12_7 : w11.cell? ⟨gb651, 7, none⟩ = some (.bool a0_7) := (blk_cell BK651.out 7).trans rfl; have hfz12_0 := blk_frozen BK651.out 0; have hfz12_1 := blk_frozen BK651.out 1; have hfz12_2 := blk_frozen BK651.out 2; have hfz12_3 := blk_frozen BK651.out 3; have hfz12_4 := blk_frozen BK651.out 4; have hfz12_5 := blk_frozen BK651.out 5; have hfz12_6 := blk_frozen BK651.out 6; have hfz12_7 := blk_frozen BK651.out 7; have hcz13_0 : w11.cell? ⟨gb652, 0, none⟩ = some (.int .i64 a1_0) := (blk_cell BK652.out 0).trans rfl; have hcz13_1 : w11.cell? ⟨gb652, 1, none⟩ = some (.slice A1_1 l1_1.length c1_1) := (blk_cell BK652.out 1).trans rfl; have hcz13_2 : w11.cell? ⟨gb652, 2, none⟩ = some (.slice A1_2 l1_2.length c1_2) := (blk_cell BK652.out 2).trans rfl; have hcz13_3 : w11.cell? ⟨gb652, 3, none⟩ = some (.int .i64 a1_3) := (blk_cell BK652.out 3).trans rfl; have hcz13_4 : w11.cell? ⟨gb652, 4, none⟩ = some (.slice A1_4 l1_4.length c1_4) := (blk_cell BK652.out 4).trans rfl; have hcz13_5 : w11.cell? ⟨gb652, 5, none⟩ = some (.slice A1_5 l1_5.length c1_5) := (blk_cell BK652.out 5).trans rfl; have hcz13_6 : w11.cell? ⟨gb652, 6, none⟩ = some (.slice A1_6 l1_6.length c1_6) := (blk_cell BK652.out 6).trans rfl; have hcz13_7 : w11.cell? ⟨gb652, 7, none⟩ = some (.bool a1_7) := (blk_cell BK652.out 7).trans rfl; have hfz13_0 := blk_frozen BK652.out 0; have hfz13_1 := blk_frozen BK652.out 1; have hfz13_2 := blk_frozen BK652.out 2; have hfz13_3 := blk_frozen BK652.out 3; have hfz13_4 := blk_frozen BK652.out 4; have hfz13_5 := blk_frozen BK652.out 5; have hfz13_6 := blk_frozen BK652.out 6; have hfz13_7 := blk_frozen BK652.out 7) | (go_at_call 58; (with_reducible refine (caesuraref0_SameMachine.calls k a0_3 _ _ l0_4 _ _ l0_5 a1_3 _ _ l1_4 _ _ l1_5 t654 _ ?side1 ?side2 ?side3 ?side4 ?side5 ?side6 ?side7 ?side8 A4.out).mono ?_); (case side1 => repeat (first | exact (Kd.C_below HR0_4.out HB.out) | (with_reducible refine Kd.C_alloc ?_ _) | (with_reducible refine Kd.C_drewN ?_ _) | (with_reducible refine Kd.C_drew ?_))); (case side2 => exact HC0_4.out); (case side3 => repeat (first | exact (Kd.C_below HR0_5.out HB.out) | (with_reducible refine Kd.C_alloc ?_ _) | (with_reducible refine Kd.C_drewN ?_ _) | (with_reducible refine Kd.C_drew ?_))); (case side4 => exact HC0_5.out); (case side5 => repeat (first | exact (Kd.C_below HR1_4.out HB.out) | (with_reducible refine Kd.C_alloc ?_ _) | (with_reducible refine Kd.C_drewN ?_ _) | (with_reducible refine Kd.C_drew ?_))); (case side6 => exact HC1_4.out); (case side7 => repeat (first | exact (Kd.C_below HR1_5.out HB.out) | (with_reducible refine Kd.C_alloc ?_ _) | (with_reducible refine Kd.C_drewN ?_ _) | (with_reducible refine Kd.C_drew ?_))); (case side8 => exact HC1_5.out); rintro e w14 ⟨rfl, hb⟩; have n0_ := Aside0.mk (blk_below (g := gb651) (o := .cells #[.int .i64 a0_0, .slice A0_1 l0_1.length c0_1, .slice A0_2 l0_2.length c0_2, .int .i64 a0_3, .slice A0_4 l0_4.length c0_4, .slice A0_5 l0_5.length c0_5, .slice A0_6 l0_6.length c0_6, .bool a0_7] 60 (0, 0)) (by (with_reducible repeat (first | refine blk_drewN ?_ _ | refine blk_drew ?_ | refine blk_alloc ?_ _)); exact BK651.out) hb); have n1_ := Aside0.mk (blk_below (g := gb652) (o := .cells #[.int .i64 a1_0, .slice A1_1 l1_1.length c1_1, .slice A1_2 l1_2.length c1_2, .int .i64 a1_3, .slice A1_4 l1_4.length c1_4, .slice A1_5 l1_5.length c1_5, .slice A1_6 l1_6.length c1_6, .bool a1_7] 60 (0, 0)) (by (with_reducible repeat (first | refine blk_drewN ?_ _ | refine blk_drew ?_ | refine blk_alloc ?_ _)); exact BK652.out) hb); have n2_ := Aside0.mk (below_step (by repeat (first | (with_reducible first | exact HB.out | apply below_alloc | apply pw_below_drewN | apply below_drew1 | refine below_set ?_ GE651.out | refine below_set ?_ GE652.out) | exact HB.out)) hb); clear BK651; clear BK652; clear HB; have BK651 := n0_; have BK652 := n1_; have HB := n2_; clear n0_ n1_ n2_; (try clear hb); (try clear hb2); (try clear hk); (try clear hi))); go_upto_region 3 with (first | ((with_reducible refine gate_dst (N := 2) rfl ?_); (try (refine gate_guard (by rfl) ?_; dsimp only)); refine box_event ?hg (N := 2) ?hd (cs := #[.int .i64 a0_0, .slice A0_1 l0_1.length c0_1, .slice A0_2 l0_2.length c0_2, .int .i64 a0_3, .slice A0_4 l0_4.length c0_4, .slice A0_5 l0_5.length c0_5, .slice A0_6 l0_6.length c0_6, .bool a0_7]) (t := 60) ?hr ?_; (case hd => rfl); (case hg => rfl); (case hr => first | (go_simp; done) | (go_simp; rfl)); intro gb651 hg w6 hbox hb; have n0_ := Aside0.mk (below_step (by repeat (first | (with_reducible first | exact HB.out | apply below_alloc | apply pw_below_drewN | apply below_drew1) | exact HB.out)) hb); have n1_ := Aside0.mk (hbox); have n2_ := Aside0.mk ((by rw [hg]; exact (below_size (by repeat (first | (with_reducible first | exact HB.out | apply below_alloc | apply pw_below_drewN | apply below_drew1) | exact HB.out))) : w.heap.size ≤ gb651)); have n3_ := Aside0.mk ((by rw [hg]; exact (below_size (by repeat (first | (with_reducible first | exact HB.out | apply below_alloc | apply pw_below_drewN | apply below_drew1) | exact HB.out))) : w.heap.size ≤ gb651)); clear HB; have HB := n0_; have BK651 := n1_; have GW651 := n2_; have GE651 := n3_; clear n0_ n1_ n2_ n3_; clear hb hbox hg) | ((with_reducible refine gate_dst (N := 3) rfl ?_); (try (refine gate_guard (by rfl) ?_; dsimp only)); refine box_event ?hg (N := 3) ?hd (cs := #[.int .i64 a1_0, .slice A1_1 l1_1.length c1_1, .slice A1_2 l1_2.length c1_2, .int .i64 a1_3, .slice A1_4 l1_4.length c1_4, .slice A1_5 l1_5.length c1_5, .slice A1_6 l1_6.length c1_6, .bool a1_7]) (t := 60) ?hr ?_; (case hd => rfl); (case hg => rfl); (case hr => first | (go_simp; done) | (go_simp; rfl)); intro gb652 hg w7 hbox hb; have n0_ := Aside0.mk (blk_below (g := gb651) (o := .cells #[.int .i64 a0_0, .slice A0_1 l0_1.length c0_1, .slice A0_2 l0_2.length c0_2, .int .i64 a0_3, .slice A0_4 l0_4.length c0_4, .slice A0_5 l0_5.length c0_5, .slice A0_6 l0_6.length c0_6, .bool a0_7] 60 (0, 0)) (by (with_reducible repeat (first | refine blk_drewN ?_ _ | refine blk_drew ?_ | refine blk_alloc ?_ _)); exact BK651.out) hb); have n1_ := Aside0.mk (below_step (by repeat (first | (with_reducible first | exact HB.out | apply below_alloc | apply pw_below_drewN | apply below_drew1 | refine below_set ?_ GE651.out) | exact HB.out)) hb); have n2_ := Aside0.mk (hbox); have n3_ := Aside0.mk ((by rw [hg]; exact (below_size (by repeat (first | (with_reducible first | exact HB.out | apply below_alloc | apply pw_below_drewN | apply below_drew1 | refine below_set ?_ GE651.out) | exact HB.out))) : w.heap.size ≤ gb652)); have n4_ := Aside0.mk ((by rw [hg]; exact (below_size (by repeat (first | (with_reducible first | exact HB.out | apply below_alloc | apply pw_below_drewN | apply below_drew1 | refine below_set ?_ GE651.out) | exact HB.out))) : w.heap.size ≤ gb652)); have n5_ := Aside0.mk ((by rw [hg]; exact Nat.ne_of_lt (blk_lt (g := gb651) (o := .cells #[.int .i64 a0_0, .slice A0_1 l0_1.length c0_1, .slice A0_2 l0_2.length c0_2, .int .i64 a0_3, .slice A0_4 l0_4.length c0_4, .slice A0_5 l0_5.length c0_5, .slice A0_6 l0_6.length c0_6, .bool a0_7] 60 (0, 0)) (by (with_reducible repeat (first | refine blk_drewN ?_ _ | refine blk_drew ?_ | refine blk_alloc ?_ _)); exact BK651.out)) : gb651 ≠ gb652)); have n6_ := Aside0.mk ((by rw [hg]; exact Nat.ne_of_gt (blk_lt (g := gb651) (o := .cells #[.int .i64 a0_0, .slice A0_1 l0_1.length c0_1, .slice A0_2 l0_2.length c0_2, .int .i64 a0_3, .slice A0_4 l0_4.length c0_4, .slice A0_5 l0_5.length c0_5, .slice A0_6 l0_6.length c0_6, .bool a0_7] 60 (0, 0)) (by (with_reducible repeat (first | refine blk_drewN ?_ _ | refine blk_drew ?_ | refine blk_alloc ?_ _)); exact BK651.out)) : gb652 ≠ gb651)); clear BK651; clear HB; have BK651 := n0_; have HB := n1_; have BK652 := n2_; have GW652 := n3_; have GE652 := n4_; have NB651_652 := n5_; have NB652_651 := n6_; clear n0_ n1_ n2_ n3_ n4_ n5_ n6_; clear hb hbox hg; have hnb8 := NB651_652.out; have hnc8 := NB652_651.out; have hcz9_0 : w7.cell? ⟨gb651, 0, none⟩ = some (.int .i64 a0_0) := (blk_cell BK651.out 0).trans rfl; have hcz9_1 : w7.cell? ⟨gb651, 1, none⟩ = some (.slice A0_1 l0_1.length c0_1) := (blk_cell BK651.out 1).trans rfl; have hcz9_2 : w7.cell? ⟨gb651, 2, none⟩ = some (.slice A0_2 l0_2.length c0_2) := (blk_cell BK651.out 2).trans rfl; have hcz9_3 : w7.cell? ⟨gb651, 3, none⟩ = some (.int .i64 a0_3) := (blk_cell BK651.out 3).trans rfl; have hcz9_4 : w7.cell? ⟨gb651, 4, none⟩ = some (.slice A0_4 l0_4.length c0_4) := (blk_cell BK651.out 4).trans rfl; have hcz9_5 : w7.cell? ⟨gb651, 5, none⟩ = some (.slice A0_5 l0_5.length c0_5) := (blk_cell BK651.out 5).trans rfl; have hcz9_6 : w7.cell? ⟨gb651, 6, none⟩ = some (.slice A0_6 l0_6.length c0_6) := (blk_cell BK651.out 6).trans rfl; have hcz9_7 : w7.cell? ⟨gb651, 7, none⟩ = some (.bool a0_7) := (blk_cell BK651.out 7).trans rfl; have hfz9_0 := blk_frozen BK651.out 0; have hfz9_1 := blk_frozen BK651.out 1; have hfz9_2 := blk_frozen BK651.out 2; have hfz9_3 := blk_frozen BK651.out 3; have hfz9_4 := blk_frozen BK651.out 4; have hfz9_5 := blk_frozen BK651.out 5; have hfz9_6 := blk_frozen BK651.out 6; have hfz9_7 := blk_frozen BK651.out 7; have hcz10_0 : w7.cell? ⟨gb652, 0, none⟩ = some (.int .i64 a1_0) := (blk_cell BK652.out 0).trans rfl; have hcz10_1 : w7.cell? ⟨gb652, 1, none⟩ = some (.slice A1_1 l1_1.length c1_1) := (blk_cell BK652.out 1).trans rfl; have hcz10_2 : w7.cell? ⟨gb652, 2, none⟩ = some (.slice A1_2 l1_2.length c1_2) := (blk_cell BK652.out 2).trans rfl; have hcz10_3 : w7.cell? ⟨gb652, 3, none⟩ = some (.int .i64 a1_3) := (blk_cell BK652.out 3).trans rfl; have hcz10_4 : w7.cell? ⟨gb652, 4, none⟩ = some (.slice A1_4 l1_4.length c1_4) := (blk_cell BK652.out 4).trans rfl; have hcz10_5 : w7.cell? ⟨gb652, 5, none⟩ = some (.slice A1_5 l1_5.length c1_5) := (blk_cell BK652.out 5).trans rfl; have hcz10_6 : w7.cell? ⟨gb652, 6, none⟩ = some (.slice A1_6 l1_6.length c1_6) := (blk_cell BK652.out 6).trans rfl; have hcz10_7 : w7.cell? ⟨gb652, 7, none⟩ = some (.bool a1_7) := (blk_cell BK652.out 7).trans rfl; have hfz10_0 := blk_frozen BK652.out 0; have hfz10_1 := blk_frozen BK652.out 1; have hfz10_2 := blk_frozen BK652.out 2; have hfz10_3 := blk_frozen BK652.out 3; have hfz10_4 := blk_frozen BK652.out 4; have hfz10_5 := blk_frozen BK652.out 5; have hfz10_6 := blk_frozen BK652.out 6; have hfz10_7 := blk_frozen BK652.out 7) | (go_at_call 58; (with_reducible refine (caesuraref0_SameMachine.calls k a0_0 _ _ l0_1 _ _ l0_2 a1_0 _ _ l1_1 _ _ l1_2 t653 _ ?side1 ?side2 ?side3 ?side4 ?side5 ?side6 ?side7 ?side8 A3.out).mono ?_); (case side1 => repeat (first | exact (Kd.C_below HR0_1.out HB.out) | (with_reducible refine Kd.C_alloc ?_ _) | (with_reducible refine Kd.C_drewN ?_ _) | (with_reducible refine Kd.C_drew ?_))); (case side2 => exact HC0_1.out); (case side3 => repeat (first | exact (Kd.C_below HR0_2.out HB.out) | (with_reducible refine Kd.C_alloc ?_ _) | (with_reducible refine Kd.C_drewN ?_ _) | (with_reducible refine Kd.C_drew ?_))); (case side4 => exact HC0_2.out); (case side5 => repeat (first | exact (Kd.C_below HR1_1.out HB.out) | (with_reducible refine Kd.C_alloc ?_ _) | (with_reducible refine Kd.C_drewN ?_ _) | (with_reducible refine Kd.C_drew ?_))); (case side6 => exact HC1_1.out); (case side7 => repeat (first | exact (Kd.C_below HR1_2.out HB.out) | (with_reducible refine Kd.C_alloc ?_ _) | (with_reducible refine Kd.C_drewN ?_ _) | (with_reducible refine Kd.C_drew ?_))); (case side8 => exact HC1_2.out); rintro e w11 ⟨rfl, hb⟩; have n0_ := Aside0.mk (blk_below (g := gb651) (o := .cells #[.int .i64 a0_0, .slice A0_1 l0_1.length c0_1, .slice A0_2 l0_2.length c0_2, .int .i64 a0_3, .slice A0_4 l0_4.length c0_4, .slice A0_5 l0_5.length c0_5, .slice A0_6 l0_6.length c0_6, .bool a0_7] 60 (0, 0)) (by (with_reducible repeat (first | refine blk_drewN ?_ _ | refine blk_drew ?_ | refine blk_alloc ?_ _)); exact BK651.out) hb); have n1_ := Aside0.mk (blk_below (g := gb652) (o := .cells #[.int .i64 a1_0, .slice A1_1 l1_1.length c1_1, .slice A1_2 l1_2.length c1_2, .int .i64 a1_3, .slice A1_4 l1_4.length c1_4, .slice A1_5 l1_5.length c1_5, .slice A1_6 l1_6.length c1_6, .bool a1_7] 60 (0, 0)) (by (with_reducible repeat (first | refine blk_drewN ?_ _ | refine blk_drew ?_ | refine blk_alloc ?_ _)); exact BK652.out) hb); have n2_ := Aside0.mk (below_step (by repeat (first | (with_reducible first | exact HB.out | apply below_alloc | apply pw_below_drewN | apply below_drew1 | refine below_set ?_ GE651.out | refine below_set ?_ GE652.out) | exact HB.out)) hb); clear BK651; clear BK652; clear HB; have BK651 := n0_; have BK652 := n1_; have HB := n2_; clear n0_ n1_ n2_; (try clear hb); (try clear hb2); (try clear hk); (try clear hi); have hcz12_0 : w11.cell? ⟨gb651, 0, none⟩ = some (.int .i64 a0_0) := (blk_cell BK651.out 0).trans rfl; have hcz12_1 : w11.cell? ⟨gb651, 1, none⟩ = some (.slice A0_1 l0_1.length c0_1) := (blk_cell BK651.out 1).trans rfl; have hcz12_2 : w11.cell? ⟨gb651, 2, none⟩ = some (.slice A0_2 l0_2.length c0_2) := (blk_cell BK651.out 2).trans rfl; have hcz12_3 : w11.cell? ⟨gb651, 3, none⟩ = some (.int .i64 a0_3) := (blk_cell BK651.out 3).trans rfl; have hcz12_4 : w11.cell? ⟨gb651, 4, none⟩ = some (.slice A0_4 l0_4.length c0_4) := (blk_cell BK651.out 4).trans rfl; have hcz12_5 : w11.cell? ⟨gb651, 5, none⟩ = some (.slice A0_5 l0_5.length c0_5) := (blk_cell BK651.out 5).trans rfl; have hcz12_6 : w11.cell? ⟨gb651, 6, none⟩ = some (.slice A0_6 l0_6.length c0_6) := (blk_cell BK651.out 6).trans rfl; have hcz12_7 : w11.cell? ⟨gb651, 7, none⟩ = some (.bool a0_7) := (blk_cell BK651.out 7).trans rfl; have hfz12_0 := blk_frozen BK651.out 0; have hfz12_1 := blk_frozen BK651.out 1; have hfz12_2 := blk_frozen BK651.out 2; have hfz12_3 := blk_frozen BK651.out 3; have hfz12_4 := blk_frozen BK651.out 4; have hfz12_5 := blk_frozen BK651.out 5; have hfz12_6 := blk_frozen BK651.out 6; have hfz12_7 := blk_frozen BK651.out 7; have hcz13_0 : w11.cell? ⟨gb652, 0, none⟩ = some (.int .i64 a1_0) := (blk_cell BK652.out 0).trans rfl; have hcz13_1 : w11.cell? ⟨gb652, 1, none⟩ = some (.slice A1_1 l1_1.length c1_1) := (blk_cell BK652.out 1).trans rfl; have hcz13_2 : w11.cell? ⟨gb652, 2, none⟩ = some (.slice A1_2 l1_2.length c1_2) := (blk_cell BK652.out 2).trans rfl; have hcz13_3 : w11.cell? ⟨gb652, 3, none⟩ = some (.int .i64 a1_3) := (blk_cell BK652.out 3).trans rfl; have hcz13_4 : w11.cell? ⟨gb652, 4, none⟩ = some (.slice A1_4 l1_4.length c1_4) := (blk_cell BK652.out 4).trans rfl; have hcz13_5 : w11.cell? ⟨gb652, 5, none⟩ = some (.slice A1_5 l1_5.length c1_5) := (blk_cell BK652.out 5).trans rfl; have hcz13_6 : w11.cell? ⟨gb652, 6, none⟩ = some (.slice A1_6 l1_6.length c1_6) := (blk_cell BK652.out 6).trans rfl; have hcz13_7 : w11.cell? ⟨gb652, 7, none⟩ = some (.bool a1_7) := (blk_cell BK652.out 7).trans rfl; have hfz13_0 := blk_frozen BK652.out 0; have hfz13_1 := blk_frozen BK652.out 1; have hfz13_2 := blk_frozen BK652.out 2; have hfz13_3 := blk_frozen BK652.out 3; have hfz13_4 := blk_frozen BK652.out 4; have hfz13_5 := blk_frozen BK652.out 5; have hfz13_6 := blk_frozen BK652.out 6; have hfz13_7 := blk_frozen BK652.out 7) | (go_at_call 58; (with_reducible refine (caesuraref0_SameMachine.calls k a0_3 _ _ l0_4 _ _ l0_5 a1_3 _ _ l1_4 _ _ l1_5 t654 _ ?side1 ?side2 ?side3 ?side4 ?side5 ?side6 ?side7 ?side8 A4.out).mono ?_); (case side1 => repeat (first | exact (Kd.C_below HR0_4.out HB.out) | (with_reducible refine Kd.C_alloc ?_ _) | (with_reducible refine Kd.C_drewN ?_ _) | (with_reducible refine Kd.C_drew ?_))); (case side2 => exact HC0_4.out); (case side3 => repeat (first | exact (Kd.C_below HR0_5.out HB.out) | (with_reducible refine Kd.C_alloc ?_ _) | (with_reducible refine Kd.C_drewN ?_ _) | (with_reducible refine Kd.C_drew ?_))); (case side4 => exact HC0_5.out); (case side5 => repeat (first | exact (Kd.C_below HR1_4.out HB.out) | (with_reducible refine Kd.C_alloc ?_ _) | (with_reducible refine Kd.C_drewN ?_ _) | (with_reducible refine Kd.C_drew ?_))); (case side6 => exact HC1_4.out); (case side7 => repeat (first | exact (Kd.C_below HR1_5.out HB.out) | (with_reducible refine Kd.C_alloc ?_ _) | (with_reducible refine Kd.C_drewN ?_ _) | (with_reducible refine Kd.C_drew ?_))); (case side8 => exact HC1_5.out); rintro e w14 ⟨rfl, hb⟩; have n0_ := Aside0.mk (blk_below (g := gb651) (o := .cells #[.int .i64 a0_0, .slice A0_1 l0_1.length c0_1, .slice A0_2 l0_2.length c0_2, .int .i64 a0_3, .slice A0_4 l0_4.length c0_4, .slice A0_5 l0_5.length c0_5, .slice A0_6 l0_6.length c0_6, .bool a0_7] 60 (0, 0)) (by (with_reducible repeat (first | refine blk_drewN ?_ _ | refine blk_drew ?_ | refine blk_alloc ?_ _)); exact BK651.out) hb); have n1_ := Aside0.mk (blk_below (g := gb652) (o := .cells #[.int .i64 a1_0, .slice A1_1 l1_1.length c1_1, .slice A1_2 l1_2.length c1_2, .int .i64 a1_3, .slice A1_4 l1_4.length c1_4, .slice A1_5 l1_5.length c1_5, .slice A1_6 l1_6.length c1_6, .bool a1_7] 60 (0, 0)) (by (with_reducible repeat (first | refine blk_drewN ?_ _ | refine blk_drew ?_ | refine blk_alloc ?_ _)); exact BK652.out) hb); have n2_ := Aside0.mk (below_step (by repeat (first | (with_reducible first | exact HB.out | apply below_alloc | apply pw_below_drewN | apply below_drew1 | refine below_set ?_ GE651.out | refine below_set ?_ GE652.out) | exact HB.out)) hb); clear BK651; clear BK652; clear HB; have BK651 := n0_; have BK652 := n1_; have HB := n2_; clear n0_ n1_ n2_; (try clear hb); (try clear hb2); (try clear hk); (try clear hi))))
 (try simp only [Act.put, List.setIfInBounds_toArray, List.set_cons_zero, List.set_cons_succ])
 go_cut [39] (fun v39 wc => ∃ (kq : Nat) (x39_4 : Bool), v39 = .bool x39_4 ∧ Aside0 (caesuraref0_SamePairing.j0 kq x39_4 a0_0 l0_1 l0_2 a0_3 l0_4 l0_5 l0_6 a0_7 a1_0 l1_1 l1_2 a1_3 l1_4 l1_5 l1_6 a1_7 = some r) ∧ Aside0 (kq ≤ k) ∧ Aside0 (wc.heap[gb651]? = some (.cells #[.int .i64 a0_0, (.slice A0_1 l0_1.length c0_1), (.slice A0_2 l0_2.length c0_2), .int .i64 a0_3, (.slice A0_4 l0_4.length c0_4), (.slice A0_5 l0_5.length c0_5), (.slice A0_6 l0_6.length c0_6), .bool a0_7] 60 (0, 0))) ∧ Aside0 (wc.heap[gb652]? = some (.cells #[.int .i64 a1_0, (.slice A1_1 l1_1.length c1_1), (.slice A1_2 l1_2.length c1_2), .int .i64 a1_3, (.slice A1_4 l1_4.length c1_4), (.slice A1_5 l1_5.length c1_5), (.slice A1_6 l1_6.length c1_6), .bool a1_7] 60 (0, 0))) ∧ Aside0 (Below w.heap.size w wc))
 case first =>
  have H := HC5.out
  clear HC5
  by_cases c15 : t653 = true
  ·subst c15
   have H1 : (if t654 = true then (if (a0_7 != a1_7) = true then (caesuraref0_SamePairing.j0 k true a0_0 l0_1 l0_2 a0_3 l0_4 l0_5 l0_6 a0_7 a1_0 l1_1 l1_2 a1_3 l1_4 l1_5 l1_6 a1_7) else (caesuraref0_SamePairing.j0 k ((l0_6.length : Int) != (l1_6.length : Int)) a0_0 l0_1 l0_2 a0_3 l0_4 l0_5 l0_6 a0_7 a1_0 l1_1 l1_2 a1_3 l1_4 l1_5 l1_6 a1_7)) else (caesuraref0_SamePairing.j0 k true a0_0 l0_1 l0_2 a0_3 l0_4 l0_5 l0_6 a0_7 a1_0 l1_1 l1_2 a1_3 l1_4 l1_5 l1_6 a1_7)) = some r := by rw [if_pos rfl] at H; exact H
   clear H
   have H := H1
   clear H1
   by_cases c16 : t654 = true
   ·subst c16
    have H1 : (if (a0_7 != a1_7) = true then (caesuraref0_SamePairing.j0 k true a0_0 l0_1 l0_2 a0_3 l0_4 l0_5 l0_6 a0_7 a1_0 l1_1 l1_2 a1_3 l1_4 l1_5 l1_6 a1_7) else (caesuraref0_SamePairing.j0 k ((l0_6.length : Int) != (l1_6.length : Int)) a0_0 l0_1 l0_2 a0_3 l0_4 l0_5 l0_6 a0_7 a1_0 l1_1 l1_2 a1_3 l1_4 l1_5 l1_6 a1_7)) = some r := by rw [if_pos rfl] at H; exact H
    clear H
    have H := H1
    clear H1
    by_cases c17 : (a0_7 != a1_7) = true
    ·rw [if_pos c17] at H
     have c17b0 : (a0_7 != a1_7) = true := c17
     (try (have c17b1 : decide (a0_7 = a1_7) = false := by simpa using c17))
     (try (have c17b2 : (a0_7 == a1_7) = false := by simpa using c17))
     (try (have c17b3 : ¬ (a0_7 = a1_7) := by simpa using c17))
     clear c17
     (first | rw [c17b0] | (simp only [i64_w, i32_w]; rw [c17b0]) | skip)
     have H' := Aside0.mk H
     clear H
     have hnb18 := NB651_652.out
     have hnc18 := NB652_651.out
     have hcz19_0 : w14.cell? ⟨gb651, 0, none⟩ = some (.int .i64 a0_0) := (blk_cell BK651.out 0).trans rfl
     have hcz19_1 : w14.cell? ⟨gb651, 1, none⟩ = some (.slice A0_1 l0_1.length c0_1) := (blk_cell BK651.out 1).trans rfl
     have hcz19_2 : w14.cell? ⟨gb651, 2, none⟩ = some (.slice A0_2 l0_2.length c0_2) := (blk_cell BK651.out 2).trans rfl
     have hcz19_3 : w14.cell? ⟨gb651, 3, none⟩ = some (.int .i64 a0_3) := (blk_cell BK651.out 3).trans rfl
     have hcz19_4 : w14.cell? ⟨gb651, 4, none⟩ = some (.slice A0_4 l0_4.length c0_4) := (blk_cell BK651.out 4).trans rfl
     have hcz19_5 : w14.cell? ⟨gb651, 5, none⟩ = some (.slice A0_5 l0_5.length c0_5) := (blk_cell BK651.out 5).trans rfl
     have hcz19_6 : w14.cell? ⟨gb651, 6, none⟩ = some (.slice A0_6 l0_6.length c0_6) := (blk_cell BK651.out 6).trans rfl
     have hcz19_7 : w14.cell? ⟨gb651, 7, none⟩ = some (.bool a0_7) := (blk_cell BK651.out 7).trans rfl
     have hfz19_0 := blk_frozen BK651.out 0
     have hfz19_1 := blk_frozen BK651.out 1
     have hfz19_2 := blk_frozen BK651.out 2
     have hfz19_3 := blk_frozen BK651.out 3
     have hfz19_4 := blk_frozen BK651.out 4
     have hfz19_5 := blk_frozen BK651.out 5
     have hfz19_6 := blk_frozen BK651.out 6
     have hfz19_7 := blk_frozen BK651.out 7
     have hcz20_0 : w14.cell? ⟨gb652, 0, none⟩ = some (.int .i64 a1_0) := (blk_cell BK652.out 0).trans rfl
     have hcz20_1 : w14.cell? ⟨gb652, 1, none⟩ = some (.slice A1_1 l1_1.length c1_1) := (blk_cell BK652.out 1).trans rfl
     have hcz20_2 : w14.cell? ⟨gb652, 2, none⟩ = some (.slice A1_2 l1_2.length c1_2) := (blk_cell BK652.out 2).trans rfl
     have hcz20_3 : w14.cell? ⟨gb652, 3, none⟩ = some (.int .i64 a1_3) := (blk_cell BK652.out 3).trans rfl
     have hcz20_4 : w14.cell? ⟨gb652, 4, none⟩ = some (.slice A1_4 l1_4.length c1_4) := (blk_cell BK652.out 4).trans rfl
     have hcz20_5 : w14.cell? ⟨gb652, 5, none⟩ = some (.slice A1_5 l1_5.length c1_5) := (blk_cell BK652.out 5).trans rfl
     have hcz20_6 : w14.cell? ⟨gb652, 6, none⟩ = some (.slice A1_6 l1_6.length c1_6) := (blk_cell BK652.out 6).trans rfl
     have hcz20_7 : w14.cell? ⟨gb652, 7, none⟩ = some (.bool a1_7) := (blk_cell BK652.out 7).trans rfl
     have hfz20_0 := blk_frozen BK652.out 0
     have hfz20_1 := blk_frozen BK652.out 1
     have hfz20_2 := blk_frozen BK652.out 2
     have hfz20_3 := blk_frozen BK652.out 3
     have hfz20_4 := blk_frozen BK652.out 4
     have hfz20_5 := blk_frozen BK652.out 5
     have hfz20_6 := blk_frozen BK652.out 6
     have hfz20_7 := blk_frozen BK652.out 7
     go_wp2
     repeat (go_quiet (fail); try go_wp2)
     go_meet
     case rel => exact ⟨_, (true), (by first | rfl | (simp; done) | (simp [*]; done)), H', ⟨by first | omega | exact Nat.le_refl _⟩, ⟨by (with_reducible repeat (first | refine blk_drewN ?_ _ | refine blk_drew ?_ | refine blk_alloc ?_ _)); exact BK651.out⟩, ⟨by (with_reducible repeat (first | refine blk_drewN ?_ _ | refine blk_drew ?_ | refine blk_alloc ?_ _)); exact BK652.out⟩, ⟨by repeat (first | (with_reducible first | exact HB.out | apply below_alloc | apply pw_below_drewN | apply below_drew1 | refine below_set ?_ GE651.out | refine below_set ?_ GE652.out) | exact HB.out)⟩⟩
    ·rw [if_neg c17] at H
     have c17b0 : (a0_7 != a1_7) = false := by simpa using c17
     (try (have c17b1 : decide (a0_7 = a1_7) = true := by simpa using c17))
     (try (have c17b2 : (a0_7 == a1_7) = true := by simpa using c17))
     clear c17
     (first | rw [c17b0] | (simp only [i64_w, i32_w]; rw [c17b0]) | skip)
     have H' := Aside0.mk H
     clear H
     have hnb21 := NB651_652.out
     have hnc21 := NB652_651.out
     have hcz22_0 : w14.cell? ⟨gb651, 0, none⟩ = some (.int .i64 a0_0) := (blk_cell BK651.out 0).trans rfl
     have hcz22_1 : w14.cell? ⟨gb651, 1, none⟩ = some (.slice A0_1 l0_1.length c0_1) := (blk_cell BK651.out 1).trans rfl
     have hcz22_2 : w14.cell? ⟨gb651, 2, none⟩ = some (.slice A0_2 l0_2.length c0_2) := (blk_cell BK651.out 2).trans rfl
     have hcz22_3 : w14.cell? ⟨gb651, 3, none⟩ = some (.int .i64 a0_3) := (blk_cell BK651.out 3).trans rfl
     have hcz22_4 : w14.cell? ⟨gb651, 4, none⟩ = some (.slice A0_4 l0_4.length c0_4) := (blk_cell BK651.out 4).trans rfl
     have hcz22_5 : w14.cell? ⟨gb651, 5, none⟩ = some (.slice A0_5 l0_5.length c0_5) := (blk_cell BK651.out 5).trans rfl
     have hcz22_6 : w14.cell? ⟨gb651, 6, none⟩ = some (.slice A0_6 l0_6.length c0_6) := (blk_cell BK651.out 6).trans rfl
     have hcz22_7 : w14.cell? ⟨gb651, 7, none⟩ = some (.bool a0_7) := (blk_cell BK651.out 7).trans rfl
     have hfz22_0 := blk_frozen BK651.out 0
     have hfz22_1 := blk_frozen BK651.out 1
     have hfz22_2 := blk_frozen BK651.out 2
     have hfz22_3 := blk_frozen BK651.out 3
     have hfz22_4 := blk_frozen BK651.out 4
     have hfz22_5 := blk_frozen BK651.out 5
     have hfz22_6 := blk_frozen BK651.out 6
     have hfz22_7 := blk_frozen BK651.out 7
     have hcz23_0 : w14.cell? ⟨gb652, 0, none⟩ = some (.int .i64 a1_0) := (blk_cell BK652.out 0).trans rfl
     have hcz23_1 : w14.cell? ⟨gb652, 1, none⟩ = some (.slice A1_1 l1_1.length c1_1) := (blk_cell BK652.out 1).trans rfl
     have hcz23_2 : w14.cell? ⟨gb652, 2, none⟩ = some (.slice A1_2 l1_2.length c1_2) := (blk_cell BK652.out 2).trans rfl
     have hcz23_3 : w14.cell? ⟨gb652, 3, none⟩ = some (.int .i64 a1_3) := (blk_cell BK652.out 3).trans rfl
     have hcz23_4 : w14.cell? ⟨gb652, 4, none⟩ = some (.slice A1_4 l1_4.length c1_4) := (blk_cell BK652.out 4).trans rfl
     have hcz23_5 : w14.cell? ⟨gb652, 5, none⟩ = some (.slice A1_5 l1_5.length c1_5) := (blk_cell BK652.out 5).trans rfl
     have hcz23_6 : w14.cell? ⟨gb652, 6, none⟩ = some (.slice A1_6 l1_6.length c1_6) := (blk_cell BK652.out 6).trans rfl
     have hcz23_7 : w14.cell? ⟨gb652, 7, none⟩ = some (.bool a1_7) := (blk_cell BK652.out 7).trans rfl
     have hfz23_0 := blk_frozen BK652.out 0
     have hfz23_1 := blk_frozen BK652.out 1
     have hfz23_2 := blk_frozen BK652.out 2
     have hfz23_3 := blk_frozen BK652.out 3
     have hfz23_4 := blk_frozen BK652.out 4
     have hfz23_5 := blk_frozen BK652.out 5
     have hfz23_6 := blk_frozen BK652.out 6
     have hfz23_7 := blk_frozen BK652.out 7
     go_wp2
     repeat (go_quiet (fail); try go_wp2)
     go_meet
     case rel => exact ⟨_, (((l0_6.length : Int) != (l1_6.length : Int))), (by first | rfl | (simp; done) | (simp [*]; done)), H', ⟨by first | omega | exact Nat.le_refl _⟩, ⟨by (with_reducible repeat (first | refine blk_drewN ?_ _ | refine blk_drew ?_ | refine blk_alloc ?_ _)); exact BK651.out⟩, ⟨by (with_reducible repeat (first | refine blk_drewN ?_ _ | refine blk_drew ?_ | refine blk_alloc ?_ _)); exact BK652.out⟩, ⟨by repeat (first | (with_reducible first | exact HB.out | apply below_alloc | apply pw_below_drewN | apply below_drew1 | refine below_set ?_ GE651.out | refine below_set ?_ GE652.out) | exact HB.out)⟩⟩
   ·replace c16 := Bool.eq_false_iff.mpr c16
    subst c16
    have H1 : (caesuraref0_SamePairing.j0 k true a0_0 l0_1 l0_2 a0_3 l0_4 l0_5 l0_6 a0_7 a1_0 l1_1 l1_2 a1_3 l1_4 l1_5 l1_6 a1_7) = some r := by rw [if_neg (show ¬ (false = true) by decide)] at H; exact H
    clear H
    have H := H1
    clear H1
    have H' := Aside0.mk H
    clear H
    go_wp2
    repeat (go_quiet (fail); try go_wp2)
    go_meet
    case rel => exact ⟨_, (true), (by first | rfl | (simp; done) | (simp [*]; done)), H', ⟨by first | omega | exact Nat.le_refl _⟩, ⟨by (with_reducible repeat (first | refine blk_drewN ?_ _ | refine blk_drew ?_ | refine blk_alloc ?_ _)); exact BK651.out⟩, ⟨by (with_reducible repeat (first | refine blk_drewN ?_ _ | refine blk_drew ?_ | refine blk_alloc ?_ _)); exact BK652.out⟩, ⟨by repeat (first | (with_reducible first | exact HB.out | apply below_alloc | apply pw_below_drewN | apply below_drew1 | refine below_set ?_ GE651.out | refine below_set ?_ GE652.out) | exact HB.out)⟩⟩
  ·replace c15 := Bool.eq_false_iff.mpr c15
   subst c15
   have H1 : (caesuraref0_SamePairing.j0 k true a0_0 l0_1 l0_2 a0_3 l0_4 l0_5 l0_6 a0_7 a1_0 l1_1 l1_2 a1_3 l1_4 l1_5 l1_6 a1_7) = some r := by rw [if_neg (show ¬ (false = true) by decide)] at H; exact H
   clear H
   have H := H1
   clear H1
   have H' := Aside0.mk H
   clear H
   go_wp2
   repeat (go_quiet (fail); try go_wp2)
   go_meet
   case rel => exact ⟨_, (true), (by first | rfl | (simp; done) | (simp [*]; done)), H', ⟨by first | omega | exact Nat.le_refl _⟩, ⟨by (with_reducible repeat (first | refine blk_drewN ?_ _ | refine blk_drew ?_ | refine blk_alloc ?_ _)); exact BK651.out⟩, ⟨by (with_reducible repeat (first | refine blk_drewN ?_ _ | refine blk_drew ?_ | refine blk_alloc ?_ _)); exact BK652.out⟩, ⟨by repeat (first | (with_reducible first | exact HB.out | apply below_alloc | apply pw_below_drewN | apply below_drew1 | refine below_set ?_ GE651.out | refine below_set ?_ GE652.out) | exact HB.out)⟩⟩
 case rest =>
  clear HC5
  try clear c1
  try clear c2
  try clear p2
  try clear c4
  try clear c8
  try clear c15
  try clear c16
  try clear c17
  try clear c17b0
  try clear c17b1
  try clear c17b2
  try clear c18
  try clear c21
  try clear hcz10_0
  try clear hcz10_1
  try clear hcz10_2
  try clear hcz10_3
  try clear hcz10_4
  try clear hcz10_5
  try clear hcz10_6
  try clear hcz10_7
  try clear hcz12_0
  try clear hcz12_1
  try clear hcz12_2
  try clear hcz12_3
  try clear hcz12_4
  try clear hcz12_5
  try clear hcz12_6
  try clear hcz12_7
  try clear hcz13_0
  try clear hcz13_1
  try clear hcz13_2
  try clear hcz13_3
  try clear hcz13_4
  try clear hcz13_5
  try clear hcz13_6
  try clear hcz13_7
  try clear hcz19_0
  try clear hcz19_1
  try clear hcz19_2
  try clear hcz19_3
  try clear hcz19_4
  try clear hcz19_5
  try clear hcz19_6
  try clear hcz19_7
  try clear hcz20_0
  try clear hcz20_1
  try clear hcz20_2
  try clear hcz20_3
  try clear hcz20_4
  try clear hcz20_5
  try clear hcz20_6
  try clear hcz20_7
  try clear hcz22_0
  try clear hcz22_1
  try clear hcz22_2
  try clear hcz22_3
  try clear hcz22_4
  try clear hcz22_5
  try clear hcz22_6
  try clear hcz22_7
  try clear hcz23_0
  try clear hcz23_1
  try clear hcz23_2
  try clear hcz23_3
  try clear hcz23_4
  try clear hcz23_5
  try clear hcz23_6
  try clear hcz23_7
  try clear hcz9_0
  try clear hcz9_1
  try clear hcz9_2
  try clear hcz9_3
  try clear hcz9_4
  try clear hcz9_5
  try clear hcz9_6
  try clear hcz9_7
  try clear hfz10_0
  try clear hfz10_1
  try clear hfz10_2
  try clear hfz10_3
  try clear hfz10_4
  try clear hfz10_5
  try clear hfz10_6
  try clear hfz10_7
  try clear hfz12_0
  try clear hfz12_1
  try clear hfz12_2
  try clear hfz12_3
  try clear hfz12_4
  try clear hfz12_5
  try clear hfz12_6
  try clear hfz12_7
  try clear hfz13_0
  try clear hfz13_1
  try clear hfz13_2
  try clear hfz13_3
  try clear hfz13_4
  try clear hfz13_5
  try clear hfz13_6
  try clear hfz13_7
  try clear hfz19_0
  try clear hfz19_1
  try clear hfz19_2
  try clear hfz19_3
  try clear hfz19_4
  try clear hfz19_5
  try clear hfz19_6
  try clear hfz19_7
  try clear hfz20_0
  try clear hfz20_1
  try clear hfz20_2
  try clear hfz20_3
  try clear hfz20_4
  try clear hfz20_5
  try clear hfz20_6
  try clear hfz20_7
  try clear hfz22_0
  try clear hfz22_1
  try clear hfz22_2
  try clear hfz22_3
  try clear hfz22_4
  try clear hfz22_5
  try clear hfz22_6
  try clear hfz22_7
  try clear hfz23_0
  try clear hfz23_1
  try clear hfz23_2
  try clear hfz23_3
  try clear hfz23_4
  try clear hfz23_5
  try clear hfz23_6
  try clear hfz23_7
  try clear hfz9_0
  try clear hfz9_1
  try clear hfz9_2
  try clear hfz9_3
  try clear hfz9_4
  try clear hfz9_5
  try clear hfz9_6
  try clear hfz9_7
  obtain ⟨kq, x39_4, rfl, HA, HJ4, BK651, BK652, HB⟩ := hcut
  cases kq with
  | zero => exact absurd HA.out (by simp [caesuraref0_SamePairing.j0])
  | succ kj4 =>
   have H := HA.out
   clear HA
   simp only [caesuraref0_SamePairing.j0] at H
   by_cases c24 : x39_4 = true
   ·subst c24
    have H1 : (some false) = some r := by rw [if_pos rfl] at H; exact H
    clear H
    have H := H1
    clear H1
    obtain rfl := Option.some.inj H
    go_wp2
    repeat (go_quiet (fail); try go_wp2)
    go_ret
    exact ⟨by first | rfl | (simp [errW_none, errW_some] <;> rfl) | (simp [*, errW_none, errW_some] <;> rfl), by repeat (first | (with_reducible first | exact HB.out | apply below_alloc | apply pw_below_drewN | apply below_drew1 | refine below_set ?_ GE651.out | refine below_set ?_ GE652.out) | exact HB.out)⟩
   ·replace c24 := Bool.eq_false_iff.mpr c24
    subst c24
    have H1 : (caesuraref0_SamePairing.l0 kj4 0 a0_0 l0_1 l0_2 a0_3 l0_4 l0_5 l0_6 a0_7 a1_0 l1_1 l1_2 a1_3 l1_4 l1_5 l1_6 a1_7) = some r := by rw [if_neg (show ¬ (false = true) by decide)] at H; exact H
    clear H
    have H := H1
    clear H1
    have H' := Aside0.mk H
    clear H
    go_wp2
    repeat (go_quiet (fail); try go_wp2)
    go_loopg [7] kj4 (fun kq v7 w' => ∃ (x7_2 : Int), v7 = .int .i64 x7_2 ∧ Aside0 (caesuraref0_SamePairing.l0 kq x7_2 a0_0 l0_1 l0_2 a0_3 l0_4 l0_5 l0_6 a0_7 a1_0 l1_1 l1_2 a1_3 l1_4 l1_5 l1_6 a1_7 = some r) ∧ Aside0 (kq ≤ kj4) ∧ Aside0 (w'.heap[gb651]? = some (.cells #[.int .i64 a0_0, (.slice A0_1 l0_1.length c0_1), (.slice A0_2 l0_2.length c0_2), .int .i64 a0_3, (.slice A0_4 l0_4.length c0_4), (.slice A0_5 l0_5.length c0_5), (.slice A0_6 l0_6.length c0_6), .bool a0_7] 60 (0, 0))) ∧ Aside0 (w'.heap[gb652]? = some (.cells #[.int .i64 a1_0, (.slice A1_1 l1_1.length c1_1), (.slice A1_2 l1_2.length c1_2), .int .i64 a1_3, (.slice A1_4 l1_4.length c1_4), (.slice A1_5 l1_5.length c1_5), (.slice A1_6 l1_6.length c1_6), .bool a1_7] 60 (0, 0))) ∧ Aside0 (Below w.heap.size w w'))
    case atStart => exact ⟨(0), (by first | rfl | (simp; done) | (simp [*]; done)), H', ⟨Nat.le_refl _⟩, ⟨by (with_reducible repeat (first | refine blk_drewN ?_ _ | refine blk_drew ?_ | refine blk_alloc ?_ _)); exact BK651.out⟩, ⟨by (with_reducible repeat (first | refine blk_drewN ?_ _ | refine blk_drew ?_ | refine blk_alloc ?_ _)); exact BK652.out⟩, ⟨by repeat (first | (with_reducible first | exact HB.out | apply below_alloc | apply pw_below_drewN | apply below_drew1 | refine below_set ?_ GE651.out | refine below_set ?_ GE652.out) | exact HB.out)⟩⟩
    case round =>
     clear H'
     try clear c1
     try clear c2
     try clear p2
     try clear c4
     try clear c8
     try clear c15
     try clear c16
     try clear c17
     try clear c17b0
     try clear c17b1
     try clear c17b2
     try clear c18
     try clear c21
     try clear c24
     try clear hcz10_0
     try clear hcz10_1
     try clear hcz10_2
     try clear hcz10_3
     try clear hcz10_4
     try clear hcz10_5
     try clear hcz10_6
     try clear hcz10_7
     try clear hcz12_0
     try clear hcz12_1
     try clear hcz12_2
     try clear hcz12_3
     try clear hcz12_4
     try clear hcz12_5
     try clear hcz12_6
     try clear hcz12_7
     try clear hcz13_0
     try clear hcz13_1
     try clear hcz13_2
     try clear hcz13_3
     try clear hcz13_4
     try clear hcz13_5
     try clear hcz13_6
     try clear hcz13_7
     try clear hcz19_0
     try clear hcz19_1
     try clear hcz19_2
     try clear hcz19_3
     try clear hcz19_4
     try clear hcz19_5
     try clear hcz19_6
     try clear hcz19_7
     try clear hcz20_0
     try clear hcz20_1
     try clear hcz20_2
     try clear hcz20_3
     try clear hcz20_4
     try clear hcz20_5
     try clear hcz20_6
     try clear hcz20_7
     try clear hcz22_0
     try clear hcz22_1
     try clear hcz22_2
     try clear hcz22_3
     try clear hcz22_4
     try clear hcz22_5
     try clear hcz22_6
     try clear hcz22_7
     try clear hcz23_0
     try clear hcz23_1
     try clear hcz23_2
     try clear hcz23_3
     try clear hcz23_4
     try clear hcz23_5
     try clear hcz23_6
     try clear hcz23_7
     try clear hcz9_0
     try clear hcz9_1
     try clear hcz9_2
     try clear hcz9_3
     try clear hcz9_4
     try clear hcz9_5
     try clear hcz9_6
     try clear hcz9_7
     try clear hfz10_0
     try clear hfz10_1
     try clear hfz10_2
     try clear hfz10_3
     try clear hfz10_4
     try clear hfz10_5
     try clear hfz10_6
     try clear hfz10_7
     try clear hfz12_0
     try clear hfz12_1
     try clear hfz12_2
     try clear hfz12_3
     try clear hfz12_4
     try clear hfz12_5
     try clear hfz12_6
     try clear hfz12_7
     try clear hfz13_0
     try clear hfz13_1
     try clear hfz13_2
     try clear hfz13_3
     try clear hfz13_4
     try clear hfz13_5
     try clear hfz13_6
     try clear hfz13_7
     try clear hfz19_0
     try clear hfz19_1
     try clear hfz19_2
     try clear hfz19_3
     try clear hfz19_4
     try clear hfz19_5
     try clear hfz19_6
     try clear hfz19_7
     try clear hfz20_0
     try clear hfz20_1
     try clear hfz20_2
     try clear hfz20_3
     try clear hfz20_4
     try clear hfz20_5
     try clear hfz20_6
     try clear hfz20_7
     try clear hfz22_0
     try clear hfz22_1
     try clear hfz22_2
     try clear hfz22_3
     try clear hfz22_4
     try clear hfz22_5
     try clear hfz22_6
     try clear hfz22_7
     try clear hfz23_0
     try clear hfz23_1
     try clear hfz23_2
     try clear hfz23_3
     try clear hfz23_4
     try clear hfz23_5
     try clear hfz23_6
     try clear hfz23_7
     try clear hfz9_0
     try clear hfz9_1
     try clear hfz9_2
     try clear hfz9_3
     try clear hfz9_4
     try clear hfz9_5
     try clear hfz9_6
     try clear hfz9_7
     try clear p2
     obtain ⟨x7_2, rfl, HA, HK2, BK651, BK652, HB⟩ := hrel
     cases gk with
     | zero => exact absurd HA.out (by simp [caesuraref0_SamePairing.l0])
     | succ k2 =>
      have H := HA.out
      clear HA
      simp only [caesuraref0_SamePairing.l0] at H
      by_cases c25 : x7_2 < (l0_6.length : Int)
      ·rw [if_pos c25] at H
       have c25b0 : decide (x7_2 < (l0_6.length : Int)) = true := decide_eq_true c25
       clear c25
       by_cases c26 : 0 ≤ x7_2
       ·rw [if_pos c26] at H
        have c26b0 : decide (0 ≤ x7_2) = true := decide_eq_true c26
        clear c26
        by_cases c27 : x7_2 < (l1_6.length : Int)
        ·rw [if_pos c27] at H
         have c27b0 : decide (x7_2 < (l1_6.length : Int)) = true := decide_eq_true c27
         clear c27
         by_cases c28 : ((rdOf false l0_6 x7_2) != (rdOf false l1_6 x7_2)) = true
         ·rw [if_pos c28] at H
          have c28b0 : ((rdOf false l0_6 x7_2) != (rdOf false l1_6 x7_2)) = true := c28
          (try (have c28b1 : decide ((rdOf false l0_6 x7_2) = (rdOf false l1_6 x7_2)) = false := by simpa using c28))
          (try (have c28b2 : ((rdOf false l0_6 x7_2) == (rdOf false l1_6 x7_2)) = false := by simpa using c28))
          (try (have c28b3 : ¬ ((rdOf false l0_6 x7_2) = (rdOf false l1_6 x7_2)) := by simpa using c28))
          clear c28
          obtain rfl := Option.some.inj H
          have hnb29 := NB651_652.out
          have hnc29 := NB652_651.out
          have hcz30_0 : wr.cell? ⟨gb651, 0, none⟩ = some (.int .i64 a0_0) := (blk_cell BK651.out 0).trans rfl
          have hcz30_1 : wr.cell? ⟨gb651, 1, none⟩ = some (.slice A0_1 l0_1.length c0_1) := (blk_cell BK651.out 1).trans rfl
          have hcz30_2 : wr.cell? ⟨gb651, 2, none⟩ = some (.slice A0_2 l0_2.length c0_2) := (blk_cell BK651.out 2).trans rfl
          have hcz30_3 : wr.cell? ⟨gb651, 3, none⟩ = some (.int .i64 a0_3) := (blk_cell BK651.out 3).trans rfl
          have hcz30_4 : wr.cell? ⟨gb651, 4, none⟩ = some (.slice A0_4 l0_4.length c0_4) := (blk_cell BK651.out 4).trans rfl
          have hcz30_5 : wr.cell? ⟨gb651, 5, none⟩ = some (.slice A0_5 l0_5.length c0_5) := (blk_cell BK651.out 5).trans rfl
          have hcz30_6 : wr.cell? ⟨gb651, 6, none⟩ = some (.slice A0_6 l0_6.length c0_6) := (blk_cell BK651.out 6).trans rfl
          have hcz30_7 : wr.cell? ⟨gb651, 7, none⟩ = some (.bool a0_7) := (blk_cell BK651.out 7).trans rfl
          have hfz30_0 := blk_frozen BK651.out 0
          have hfz30_1 := blk_frozen BK651.out 1
          have hfz30_2 := blk_frozen BK651.out 2
          have hfz30_3 := blk_frozen BK651.out 3
          have hfz30_4 := blk_frozen BK651.out 4
          have hfz30_5 := blk_frozen BK651.out 5
          have hfz30_6 := blk_frozen BK651.out 6
          have hfz30_7 := blk_frozen BK651.out 7
          have p655 : 0 ≤ (x7_2 : Int) := of_decide_eq_true (by first | (with_reducible assumption) | assumption)
          have q655 : x7_2 < (l0_6.length : Int) := of_decide_eq_true (by first | (with_reducible assumption) | assumption)
          obtain ⟨ad655, e655, hx655_0⟩ := Kd.at_bool HR0_6.out x7_2 p655 q655
          cases e655
          replace hx655_0 := (HB.out.cell (World.block_lt_of_cell? w _ hx655_0)).trans hx655_0
          replace p655 := eq_true p655
          replace q655 := eq_true q655
          have hcz31_0 : wr.cell? ⟨gb652, 0, none⟩ = some (.int .i64 a1_0) := (blk_cell BK652.out 0).trans rfl
          have hcz31_1 : wr.cell? ⟨gb652, 1, none⟩ = some (.slice A1_1 l1_1.length c1_1) := (blk_cell BK652.out 1).trans rfl
          have hcz31_2 : wr.cell? ⟨gb652, 2, none⟩ = some (.slice A1_2 l1_2.length c1_2) := (blk_cell BK652.out 2).trans rfl
          have hcz31_3 : wr.cell? ⟨gb652, 3, none⟩ = some (.int .i64 a1_3) := (blk_cell BK652.out 3).trans rfl
          have hcz31_4 : wr.cell? ⟨gb652, 4, none⟩ = some (.slice A1_4 l1_4.length c1_4) := (blk_cell BK652.out 4).trans rfl
          have hcz31_5 : wr.cell? ⟨gb652, 5, none⟩ = some (.slice A1_5 l1_5.length c1_5) := (blk_cell BK652.out 5).trans rfl
          have hcz31_6 : wr.cell? ⟨gb652, 6, none⟩ = some (.slice A1_6 l1_6.length c1_6) := (blk_cell BK652.out 6).trans rfl
          have hcz31_7 : wr.cell? ⟨gb652, 7, none⟩ = some (.bool a1_7) := (blk_cell BK652.out 7).trans rfl
          have hfz31_0 := blk_frozen BK652.out 0
          have hfz31_1 := blk_frozen BK652.out 1
          have hfz31_2 := blk_frozen BK652.out 2
          have hfz31_3 := blk_frozen BK652.out 3
          have hfz31_4 := blk_frozen BK652.out 4
          have hfz31_5 := blk_frozen BK652.out 5
          have hfz31_6 := blk_frozen BK652.out 6
          have hfz31_7 := blk_frozen BK652.out 7
          have p656 : 0 ≤ (x7_2 : Int) := of_decide_eq_true (by first | (with_reducible assumption) | assumption)
          have q656 : x7_2 < (l1_6.length : Int) := of_decide_eq_true (by first | (with_reducible assumption) | assumption)
          obtain ⟨ad656, e656, hx656_0⟩ := Kd.at_bool HR1_6.out x7_2 p656 q656
          cases e656
          replace hx656_0 := (HB.out.cell (World.block_lt_of_cell? w _ hx656_0)).trans hx656_0
          replace p656 := eq_true p656
          replace q656 := eq_true q656
          go_wp2
          repeat (go_quiet (fail); try go_wp2)
          go_ret
          exact ⟨by first | rfl | (simp [errW_none, errW_some] <;> rfl) | (simp [*, errW_none, errW_some] <;> rfl), by repeat (first | (with_reducible first | exact HB.out | apply below_alloc | apply pw_below_drewN | apply below_drew1 | refine below_set ?_ GE651.out | refine below_set ?_ GE652.out) | exact HB.out)⟩
         ·rw [if_neg c28] at H
          have c28b0 : ((rdOf false l0_6 x7_2) != (rdOf false l1_6 x7_2)) = false := by simpa using c28
          (try (have c28b1 : decide ((rdOf false l0_6 x7_2) = (rdOf false l1_6 x7_2)) = true := by simpa using c28))
          (try (have c28b2 : ((rdOf false l0_6 x7_2) == (rdOf false l1_6 x7_2)) = true := by simpa using c28))
          clear c28
          have H' := Aside0.mk H
          clear H
          have hnb32 := NB651_652.out
          have hnc32 := NB652_651.out
          have hcz33_0 : wr.cell? ⟨gb651, 0, none⟩ = some (.int .i64 a0_0) := (blk_cell BK651.out 0).trans rfl
          have hcz33_1 : wr.cell? ⟨gb651, 1, none⟩ = some (.slice A0_1 l0_1.length c0_1) := (blk_cell BK651.out 1).trans rfl
          have hcz33_2 : wr.cell? ⟨gb651, 2, none⟩ = some (.slice A0_2 l0_2.length c0_2) := (blk_cell BK651.out 2).trans rfl
          have hcz33_3 : wr.cell? ⟨gb651, 3, none⟩ = some (.int .i64 a0_3) := (blk_cell BK651.out 3).trans rfl
          have hcz33_4 : wr.cell? ⟨gb651, 4, none⟩ = some (.slice A0_4 l0_4.length c0_4) := (blk_cell BK651.out 4).trans rfl
          have hcz33_5 : wr.cell? ⟨gb651, 5, none⟩ = some (.slice A0_5 l0_5.length c0_5) := (blk_cell BK651.out 5).trans rfl
          have hcz33_6 : wr.cell? ⟨gb651, 6, none⟩ = some (.slice A0_6 l0_6.length c0_6) := (blk_cell BK651.out 6).trans rfl
          have hcz33_7 : wr.cell? ⟨gb651, 7, none⟩ = some (.bool a0_7) := (blk_cell BK651.out 7).trans rfl
          have hfz33_0 := blk_frozen BK651.out 0
          have hfz33_1 := blk_frozen BK651.out 1
          have hfz33_2 := blk_frozen BK651.out 2
          have hfz33_3 := blk_frozen BK651.out 3
          have hfz33_4 := blk_frozen BK651.out 4
          have hfz33_5 := blk_frozen BK651.out 5
          have hfz33_6 := blk_frozen BK651.out 6
          have hfz33_7 := blk_frozen BK651.out 7
          have p655 : 0 ≤ (x7_2 : Int) := of_decide_eq_true (by first | (with_reducible assumption) | assumption)
          have q655 : x7_2 < (l0_6.length : Int) := of_decide_eq_true (by first | (with_reducible assumption) | assumption)
          obtain ⟨ad655, e655, hx655_0⟩ := Kd.at_bool HR0_6.out x7_2 p655 q655
          cases e655
          replace hx655_0 := (HB.out.cell (World.block_lt_of_cell? w _ hx655_0)).trans hx655_0
          replace p655 := eq_true p655
          replace q655 := eq_true q655
          have hcz34_0 : wr.cell? ⟨gb652, 0, none⟩ = some (.int .i64 a1_0) := (blk_cell BK652.out 0).trans rfl
          have hcz34_1 : wr.cell? ⟨gb652, 1, none⟩ = some (.slice A1_1 l1_1.length c1_1) := (blk_cell BK652.out 1).trans rfl
          have hcz34_2 : wr.cell? ⟨gb652, 2, none⟩ = some (.slice A1_2 l1_2.length c1_2) := (blk_cell BK652.out 2).trans rfl
          have hcz34_3 : wr.cell? ⟨gb652, 3, none⟩ = some (.int .i64 a1_3) := (blk_cell BK652.out 3).trans rfl
          have hcz34_4 : wr.cell? ⟨gb652, 4, none⟩ = some (.slice A1_4 l1_4.length c1_4) := (blk_cell BK652.out 4).trans rfl
          have hcz34_5 : wr.cell? ⟨gb652, 5, none⟩ = some (.slice A1_5 l1_5.length c1_5) := (blk_cell BK652.out 5).trans rfl
          have hcz34_6 : wr.cell? ⟨gb652, 6, none⟩ = some (.slice A1_6 l1_6.length c1_6) := (blk_cell BK652.out 6).trans rfl
          have hcz34_7 : wr.cell? ⟨gb652, 7, none⟩ = some (.bool a1_7) := (blk_cell BK652.out 7).trans rfl
          have hfz34_0 := blk_frozen BK652.out 0
          have hfz34_1 := blk_frozen BK652.out 1
          have hfz34_2 := blk_frozen BK652.out 2
          have hfz34_3 := blk_frozen BK652.out 3
          have hfz34_4 := blk_frozen BK652.out 4
          have hfz34_5 := blk_frozen BK652.out 5
          have hfz34_6 := blk_frozen BK652.out 6
          have hfz34_7 := blk_frozen BK652.out 7
          have p656 : 0 ≤ (x7_2 : Int) := of_decide_eq_true (by first | (with_reducible assumption) | assumption)
          have q656 : x7_2 < (l1_6.length : Int) := of_decide_eq_true (by first | (with_reducible assumption) | assumption)
          obtain ⟨ad656, e656, hx656_0⟩ := Kd.at_bool HR1_6.out x7_2 p656 q656
          cases e656
          replace hx656_0 := (HB.out.cell (World.block_lt_of_cell? w _ hx656_0)).trans hx656_0
          replace p656 := eq_true p656
          replace q656 := eq_true q656
          go_wp2
          repeat (go_quiet (fail); try go_wp2)
          go_roundg k2
          case measure => have := HJ4.out; have := HK2.out; omega
          case rel => exact ⟨(wrap64 (x7_2 + 1)), (by first | rfl | (simp; done) | (simp [*]; done)), H', ⟨by have := HJ4.out; have := HK2.out; omega⟩, ⟨by (with_reducible repeat (first | refine blk_drewN ?_ _ | refine blk_drew ?_ | refine blk_alloc ?_ _)); exact BK651.out⟩, ⟨by (with_reducible repeat (first | refine blk_drewN ?_ _ | refine blk_drew ?_ | refine blk_alloc ?_ _)); exact BK652.out⟩, ⟨by repeat (first | (with_reducible first | exact HB.out | apply below_alloc | apply pw_below_drewN | apply below_drew1 | refine below_set ?_ GE651.out | refine below_set ?_ GE652.out) | exact HB.out)⟩⟩
        ·rw [if_neg c27] at H
         exact absurd H (by simp)
       ·rw [if_neg c26] at H
        exact absurd H (by simp)
      ·rw [if_neg c25] at H
       have c25b0 : decide (x7_2 < (l0_6.length : Int)) = false := decide_eq_false c25
       clear c25
       obtain rfl := Option.some.inj H
       have hnb35 := NB651_652.out
       have hnc35 := NB652_651.out
       have hcz36_0 : wr.cell? ⟨gb651, 0, none⟩ = some (.int .i64 a0_0) := (blk_cell BK651.out 0).trans rfl
       have hcz36_1 : wr.cell? ⟨gb651, 1, none⟩ = some (.slice A0_1 l0_1.length c0_1) := (blk_cell BK651.out 1).trans rfl
       have hcz36_2 : wr.cell? ⟨gb651, 2, none⟩ = some (.slice A0_2 l0_2.length c0_2) := (blk_cell BK651.out 2).trans rfl
       have hcz36_3 : wr.cell? ⟨gb651, 3, none⟩ = some (.int .i64 a0_3) := (blk_cell BK651.out 3).trans rfl
       have hcz36_4 : wr.cell? ⟨gb651, 4, none⟩ = some (.slice A0_4 l0_4.length c0_4) := (blk_cell BK651.out 4).trans rfl
       have hcz36_5 : wr.cell? ⟨gb651, 5, none⟩ = some (.slice A0_5 l0_5.length c0_5) := (blk_cell BK651.out 5).trans rfl
       have hcz36_6 : wr.cell? ⟨gb651, 6, none⟩ = some (.slice A0_6 l0_6.length c0_6) := (blk_cell BK651.out 6).trans rfl
       have hcz36_7 : wr.cell? ⟨gb651, 7, none⟩ = some (.bool a0_7) := (blk_cell BK651.out 7).trans rfl
       have hfz36_0 := blk_frozen BK651.out 0
       have hfz36_1 := blk_frozen BK651.out 1
       have hfz36_2 := blk_frozen BK651.out 2
       have hfz36_3 := blk_frozen BK651.out 3
       have hfz36_4 := blk_frozen BK651.out 4
       have hfz36_5 := blk_frozen BK651.out 5
       have hfz36_6 := blk_frozen BK651.out 6
       have hfz36_7 := blk_frozen BK651.out 7
       go_wp2
       repeat (go_quiet (fail); try go_wp2)
       go_ret
       exact ⟨by first | rfl | (simp [errW_none, errW_some] <;> rfl) | (simp [*, errW_none, errW_some] <;> rfl), by repeat (first | (with_reducible first | exact HB.out | apply below_alloc | apply pw_below_drewN | apply below_drew1 | refine below_set ?_ GE651.out | refine below_set ?_ GE652.out) | exact HB.out)⟩
end Go.Proofs.YtfonajakaimnoaaDoor.Lib

namespace Go.Proofs.YtfonajakaimnoaaDoor.Lib
open Go.RowKit Go.Proofs.YtfonajakaimnoaaDoorW.PrintWords Go.Proofs.YtfonajakaimnoaaDoorW.PrintLast Go.Proofs.YtfonajakaimnoaaDoorW.PrintMore
attribute [local go_sem] max2_int min2_int max_two min_two max_three min_three max_four min_four   -- for this text's walks alone
set_option linter.unusedVariables false
set_option linter.unusedSimpArgs false
def pair_Size.f (a0_0 : Int) (l0_1 : List (List Int)) (l0_2 : List (List Int)) (a0_3 : Int) (l0_4 : List (List Int)) (l0_5 : List (List Int)) (l0_6 : List Bool) (a0_7 : Bool) : Option (Int) := some (wrap64 ((l0_1.length : Int) + (l0_4.length : Int)))
set_option maxHeartbeats 8000000 in
set_option maxRecDepth 100000 in
theorem pair_Size.calls (a0_0 : Int) (A0_1 : Option Addr) (c0_1 : Nat) (l0_1 : List (List Int)) (A0_2 : Option Addr) (c0_2 : Nat) (l0_2 : List (List Int)) (a0_3 : Int) (A0_4 : Option Addr) (c0_4 : Nat) (l0_4 : List (List Int)) (A0_5 : Option Addr) (c0_5 : Nat) (l0_5 : List (List Int)) (A0_6 : Option Addr) (c0_6 : Nat) (l0_6 : List Bool) (a0_7 : Bool) (r : Int) (w : World) (hr0_1 : Kd.C (Kd.slice 3 (Kd.int .i64)) w A0_1 l0_1.length l0_1) (hc0_1 : l0_1.length ≤ c0_1) (hr0_2 : Kd.C (Kd.slice 3 (Kd.int .i64)) w A0_2 l0_2.length l0_2) (hc0_2 : l0_2.length ≤ c0_2) (hr0_4 : Kd.C (Kd.slice 3 (Kd.int .i64)) w A0_4 l0_4.length l0_4) (hc0_4 : l0_4.length ≤ c0_4) (hr0_5 : Kd.C (Kd.slice 3 (Kd.int .i64)) w A0_5 l0_5.length l0_5) (hc0_5 : l0_5.length ≤ c0_5) (hr0_6 : Kd.C Kd.bool w A0_6 l0_6.length l0_6) (hc0_6 : l0_6.length ≤ c0_6) (h : pair_Size.f a0_0 l0_1 l0_2 a0_3 l0_4 l0_5 l0_6 a0_7 = some r) :
  Calls Tryd.prog 43 #[.agg #[.int .i64 a0_0, .slice A0_1 l0_1.length c0_1, .slice A0_2 l0_2.length c0_2, .int .i64 a0_3, .slice A0_4 l0_4.length c0_4, .slice A0_5 l0_5.length c0_5, .slice A0_6 l0_6.length c0_6, .bool a0_7]] w fun e w' => e = .returned (.int .i64 r) ∧ Below w.heap.size w w' := by
 have hu60 := Tryd.underlying60
 have HR0_1 := Aside0.mk hr0_1
 have HC0_1 := Aside0.mk hc0_1
 clear hr0_1 hc0_1
 have HR0_2 := Aside0.mk hr0_2
 have HC0_2 := Aside0.mk hc0_2
 clear hr0_2 hc0_2
 have HR0_4 := Aside0.mk hr0_4
 have HC0_4 := Aside0.mk hc0_4
 clear hr0_4 hc0_4
 have HR0_5 := Aside0.mk hr0_5
 have HC0_5 := Aside0.mk hc0_5
 clear hr0_5 hc0_5
 have HR0_6 := Aside0.mk hr0_6
 have HC0_6 := Aside0.mk hc0_6
 clear hr0_6 hc0_6
 have HB := Aside0.mk (Below.refl w.heap.size w)
 have H : (some (wrap64 ((l0_1.length : Int) + (l0_4.length : Int)))) = some r := h
 clear h
 obtain rfl := Option.some.inj H
 go_enter Tryd.func43, Tryd.ntmps43
 go_wp2_with (first | ((with_reducible refine gate_dst (N := 1) rfl ?_); refine box_event ?hg (N := 1) ?hd (cs := #[.int .i64 a0_0, .slice A0_1 l0_1.length c0_1, .slice A0_2 l0_2.length c0_2, .int .i64 a0_3, .slice A0_4 l0_4.length c0_4, .slice A0_5 l0_5.length c0_5, .slice A0_6 l0_6.length c0_6, .bool a0_7]) (t := 60) ?hr ?_; (case hd => rfl); (case hg => rfl); (case hr => first | (go_simp; done) | (go_simp; rfl)); intro gb635 hg w2 hbox hb; have n0_ := Aside0.mk (below_step (by repeat (first | (with_reducible first | exact HB.out | apply below_alloc | apply pw_below_drewN | apply below_drew1) | exact HB.out)) hb); have n1_ := Aside0.mk (hbox); have n2_ := Aside0.mk ((by rw [hg]; exact (below_size (by repeat (first | (with_reducible first | exact HB.out | apply below_alloc | apply pw_below_drewN | apply below_drew1) | exact HB.out))) : w.heap.size ≤ gb635)); have n3_ := Aside0.mk ((by rw [hg]; exact (below_size (by repeat (first | (with_reducible first | exact HB.out | apply below_alloc | apply pw_below_drewN | apply below_drew1) | exact HB.out))) : w.heap.size ≤ gb635)); clear HB; have HB := n0_; have BK635 := n1_; have GW635 := n2_; have GE635 := n3_; clear n0_ n1_ n2_ n3_; clear hb hbox hg; have hcz3_0 : w2.cell? ⟨gb635, 0, none⟩ = some (.int .i64 a0_0) := (blk_cell BK635.out 0).trans rfl; have hcz3_1 : w2.cell? ⟨gb635, 1, none⟩ = some (.slice A0_1 l0_1.length c0_1) := (blk_cell BK635.out 1).trans rfl; have hcz3_2 : w2.cell? ⟨gb635, 2, none⟩ = some (.slice A0_2 l0_2.length c0_2) := (blk_cell BK635.out 2).trans rfl; have hcz3_3 : w2.cell? ⟨gb635, 3, none⟩ = some (.int .i64 a0_3) := (blk_cell BK635.out 3).trans rfl; have hcz3_4 : w2.cell? ⟨gb635, 4, none⟩ = some (.slice A0_4 l0_4.length c0_4) := (blk_cell BK635.out 4).trans rfl; have hcz3_5 : w2.cell? ⟨gb635, 5, none⟩ = some (.slice A0_5 l0_5.length c0_5) := (blk_cell BK635.out 5).trans rfl; have hcz3_6 : w2.cell? ⟨gb635, 6, none⟩ = some (.slice A0_6 l0_6.length c0_6) := (blk_cell BK635.out 6).trans rfl; have hcz3_7 : w2.cell? ⟨gb635, 7, none⟩ = some (.bool a0_7) := (blk_cell BK635.out 7).trans rfl; have hfz3_0 := blk_frozen BK635.out 0; have hfz3_1 := blk_frozen BK635.out 1; have hfz3_2 := blk_frozen BK635.out 2; have hfz3_3 := blk_frozen BK635.out 3; have hfz3_4 := blk_frozen BK635.out 4; have hfz3_5 := blk_frozen BK635.out 5; have hfz3_6 := blk_frozen BK635.out 6; have hfz3_7 := blk_frozen BK635.out 7))
 go_ret
 exact ⟨by first | rfl | (simp [errW_none, errW_some] <;> rfl) | (simp [*, errW_none, errW_some] <;> rfl), by repeat (first | (with_reducible first | exact HB.out | apply below_alloc | apply pw_below_drewN | apply below_drew1 | refine below_set ?_ GE635.out) | exact HB.out)⟩
end Go.Proofs.YtfonajakaimnoaaDoor.Lib

namespace Go.Proofs.YtfonajakaimnoaaDoor.Lib
open Go.RowKit Go.Proofs.YtfonajakaimnoaaDoorW.PrintWords Go.Proofs.YtfonajakaimnoaaDoorW.PrintLast Go.Proofs.YtfonajakaimnoaaDoorW.PrintMore
attribute [local go_sem] max2_int min2_int max_two min_two max_three min_three max_four min_four   -- for this text's walks alone
set_option linter.unusedVariables false
set_option linter.unusedSimpArgs false
def caesuraref14_Size.f (a0_0 : Int) (l0_1 : List (List Int)) (l0_2 : List (List Int)) (a0_3 : Int) (l0_4 : List (List Int)) (l0_5 : List (List Int)) (l0_6 : List Bool) (a0_7 : Bool) : Option (Int) := some (wrap64 ((l0_1.length : Int) + (l0_4.length : Int)))
set_option maxHeartbeats 8000000 in
set_option maxRecDepth 100000 in
theorem caesuraref14_Size.calls (a0_0 : Int) (A0_1 : Option Addr) (c0_1 : Nat) (l0_1 : List (List Int)) (A0_2 : Option Addr) (c0_2 : Nat) (l0_2 : List (List Int)) (a0_3 : Int) (A0_4 : Option Addr) (c0_4 : Nat) (l0_4 : List (List Int)) (A0_5 : Option Addr) (c0_5 : Nat) (l0_5 : List (List Int)) (A0_6 : Option Addr) (c0_6 : Nat) (l0_6 : List Bool) (a0_7 : Bool) (r : Int) (w : World) (hr0_1 : Kd.C (Kd.slice 3 (Kd.int .i64)) w A0_1 l0_1.length l0_1) (hc0_1 : l0_1.length ≤ c0_1) (hr0_2 : Kd.C (Kd.slice 3 (Kd.int .i64)) w A0_2 l0_2.length l0_2) (hc0_2 : l0_2.length ≤ c0_2) (hr0_4 : Kd.C (Kd.slice 3 (Kd.int .i64)) w A0_4 l0_4.length l0_4) (hc0_4 : l0_4.length ≤ c0_4) (hr0_5 : Kd.C (Kd.slice 3 (Kd.int .i64)) w A0_5 l0_5.length l0_5) (hc0_5 : l0_5.length ≤ c0_5) (hr0_6 : Kd.C Kd.bool w A0_6 l0_6.length l0_6) (hc0_6 : l0_6.length ≤ c0_6) (h : caesuraref14_Size.f a0_0 l0_1 l0_2 a0_3 l0_4 l0_5 l0_6 a0_7 = some r) :
  Calls Tryd.prog 47 #[.agg #[.int .i64 a0_0, .slice A0_1 l0_1.length c0_1, .slice A0_2 l0_2.length c0_2, .int .i64 a0_3, .slice A0_4 l0_4.length c0_4, .slice A0_5 l0_5.length c0_5, .slice A0_6 l0_6.length c0_6, .bool a0_7]] w fun e w' => e = .returned (.int .i64 r) ∧ Below w.heap.size w w' := by
 have hu60 := Tryd.underlying60
 have HR0_1 := Aside0.mk hr0_1
 have HC0_1 := Aside0.mk hc0_1
 clear hr0_1 hc0_1
 have HR0_2 := Aside0.mk hr0_2
 have HC0_2 := Aside0.mk hc0_2
 clear hr0_2 hc0_2
 have HR0_4 := Aside0.mk hr0_4
 have HC0_4 := Aside0.mk hc0_4
 clear hr0_4 hc0_4
 have HR0_5 := Aside0.mk hr0_5
 have HC0_5 := Aside0.mk hc0_5
 clear hr0_5 hc0_5
 have HR0_6 := Aside0.mk hr0_6
 have HC0_6 := Aside0.mk hc0_6
 clear hr0_6 hc0_6
 have HB := Aside0.mk (Below.refl w.heap.size w)
 have H : (some (wrap64 ((l0_1.length : Int) + (l0_4.length : Int)))) = some r := h
 clear h
 obtain rfl := Option.some.inj H
 go_enter Tryd.func47, Tryd.ntmps47
 go_wp2_with (first | ((with_reducible refine gate_dst (N := 1) rfl ?_); refine box_event ?hg (N := 1) ?hd (cs := #[.int .i64 a0_0, .slice A0_1 l0_1.length c0_1, .slice A0_2 l0_2.length c0_2, .int .i64 a0_3, .slice A0_4 l0_4.length c0_4, .slice A0_5 l0_5.length c0_5, .slice A0_6 l0_6.length c0_6, .bool a0_7]) (t := 60) ?hr ?_; (case hd => rfl); (case hg => rfl); (case hr => first | (go_simp; done) | (go_simp; rfl)); intro gb657 hg w2 hbox hb; have n0_ := Aside0.mk (below_step (by repeat (first | (with_reducible first | exact HB.out | apply below_alloc | apply pw_below_drewN | apply below_drew1) | exact HB.out)) hb); have n1_ := Aside0.mk (hbox); have n2_ := Aside0.mk ((by rw [hg]; exact (below_size (by repeat (first | (with_reducible first | exact HB.out | apply below_alloc | apply pw_below_drewN | apply below_drew1) | exact HB.out))) : w.heap.size ≤ gb657)); have n3_ := Aside0.mk ((by rw [hg]; exact (below_size (by repeat (first | (with_reducible first | exact HB.out | apply below_alloc | apply pw_below_drewN | apply below_drew1) | exact HB.out))) : w.heap.size ≤ gb657)); clear HB; have HB := n0_; have BK657 := n1_; have GW657 := n2_; have GE657 := n3_; clear n0_ n1_ n2_ n3_; clear hb hbox hg; have hcz3_0 : w2.cell? ⟨gb657, 0, none⟩ = some (.int .i64 a0_0) := (blk_cell BK657.out 0).trans rfl; have hcz3_1 : w2.cell? ⟨gb657, 1, none⟩ = some (.slice A0_1 l0_1.length c0_1) := (blk_cell BK657.out 1).trans rfl; have hcz3_2 : w2.cell? ⟨gb657, 2, none⟩ = some (.slice A0_2 l0_2.length c0_2) := (blk_cell BK657.out 2).trans rfl; have hcz3_3 : w2.cell? ⟨gb657, 3, none⟩ = some (.int .i64 a0_3) := (blk_cell BK657.out 3).trans rfl; have hcz3_4 : w2.cell? ⟨gb657, 4, none⟩ = some (.slice A0_4 l0_4.length c0_4) := (blk_cell BK657.out 4).trans rfl; have hcz3_5 : w2.cell? ⟨gb657, 5, none⟩ = some (.slice A0_5 l0_5.length c0_5) := (blk_cell BK657.out 5).trans rfl; have hcz3_6 : w2.cell? ⟨gb657, 6, none⟩ = some (.slice A0_6 l0_6.length c0_6) := (blk_cell BK657.out 6).trans rfl; have hcz3_7 : w2.cell? ⟨gb657, 7, none⟩ = some (.bool a0_7) := (blk_cell BK657.out 7).trans rfl; have hfz3_0 := blk_frozen BK657.out 0; have hfz3_1 := blk_frozen BK657.out 1; have hfz3_2 := blk_frozen BK657.out 2; have hfz3_3 := blk_frozen BK657.out 3; have hfz3_4 := blk_frozen BK657.out 4; have hfz3_5 := blk_frozen BK657.out 5; have hfz3_6 := blk_frozen BK657.out 6; have hfz3_7 := blk_frozen BK657.out 7))
 go_ret
 exact ⟨by first | rfl | (simp [errW_none, errW_some] <;> rfl) | (simp [*, errW_none, errW_some] <;> rfl), by repeat (first | (with_reducible first | exact HB.out | apply below_alloc | apply pw_below_drewN | apply below_drew1 | refine below_set ?_ GE657.out) | exact HB.out)⟩
end Go.Proofs.YtfonajakaimnoaaDoor.Lib

namespace Go.Proofs.YtfonajakaimnoaaDoor.C14
open Go.RowKit Go.Proofs.YtfonajakaimnoaaDoorW.PrintWords Go.Proofs.YtfonajakaimnoaaDoorW.PrintLast Go.Proofs.YtfonajakaimnoaaDoorW.PrintMore Go.Proofs.YtfonajakaimnoaaDoor.Lib Lent Go.Proofs.YtfonajakaimnoaaDoor.Fn Go.Proofs.YtfonajakaimnoaaDoor.C11
set_option linter.unusedVariables false
set_option linter.unusedSimpArgs false
abbrev kB : Kd Bool := Kd.bool
structure Cp (A0 : Option Addr) (c0 : Nat) (N0 : LL) (A1 : Option Addr) (c1 : Nat) (O0 : LL) (A2 : Option Addr) (c2 : Nat) (N1 : LL) (A3 : Option Addr) (c3 : Nat) (O1 : LL) (A4 : Option Addr) (c4 : Nat) (B : List Bool) (w : World) : Prop where
 n0 : Kd.C kL w A0 N0.length N0 ∧ N0.length ≤ c0
 o0 : Kd.C kL w A1 O0.length O0 ∧ O0.length ≤ c1
 n1 : Kd.C kL w A2 N1.length N1 ∧ N1.length ≤ c2
 o1 : Kd.C kL w A3 O1.length O1 ∧ O1.length ≤ c3
 b : Kd.C kB w A4 B.length B ∧ B.length ≤ c4
theorem rows_bnd {W : World} {A : Option Addr} {X : LL} (h : Kd.C kL W A X.length X) : ∀ x ∈ X, x.length ≤ 9223372036854775807 := fun x hx => by
 obtain ⟨j, hj, rfl⟩ := List.getElem_of_mem hx
 obtain ⟨_, _, _, _, _, _, hC⟩ := Fn.list_at h j _ (List.getElem?_eq_getElem hj)
 exact Lent.C_bound hC
section
variable {s0 : Int} {A0 : Option Addr} {c0 : Nat} {N0 : LL} {A1 : Option Addr} {c1 : Nat} {O0 : LL} {s1 : Int} {A2 : Option Addr} {c2 : Nat} {N1 : LL} {A3 : Option Addr} {c3 : Nat} {O1 : LL} {A4 : Option Addr} {c4 : Nat} {B : List Bool} {els : Bool} {A5 : Option Addr} {c5 : Nat} {word : List Int} {w w' : World} {a0 a1 a2 : Addr}
theorem Cp.below (h : Cp A0 c0 N0 A1 c1 O0 A2 c2 N1 A3 c3 O1 A4 c4 B w) (hb : Below w.heap.size w w') : Cp A0 c0 N0 A1 c1 O0 A2 c2 N1 A3 c3 O1 A4 c4 B w' :=
 ⟨⟨Kd.C_below h.n0.1 hb, h.n0.2⟩, ⟨Kd.C_below h.o0.1 hb, h.o0.2⟩, ⟨Kd.C_below h.n1.1 hb, h.n1.2⟩, ⟨Kd.C_below h.o1.1 hb, h.o1.2⟩, ⟨Kd.C_below h.b.1 hb, h.b.2⟩⟩
theorem pchk_c (h : Cp A0 c0 N0 A1 c1 O0 A2 c2 N1 A3 c3 O1 A4 c4 B w) (hS : Sen a0 a1 a2 w) (sy : Int) :
  Calls Tryd.prog 38 #[.agg #[.int .i64 s0, .slice A0 N0.length c0, .slice A1 O0.length c1, .int .i64 s1, .slice A2 N1.length c2, .slice A3 O1.length c3, .slice A4 B.length c4, .bool els], .int .i64 sy] w fun e w' => e = .returned (errI (errV a0) (if pokB s0 N0 O0 s1 N1 O1 B sy then 0 else 1)) ∧ Below w.heap.size w w' := by
 obtain ⟨k, hk⟩ := (p_check_ev (b := els) (sy := sy) (rows_bnd h.n0.1) (rows_bnd h.o0.1) (rows_bnd h.n1.1) (rows_bnd h.o1.1)).rounds
 exact pair_Check.calls k s0 A0 c0 N0 A1 c1 O0 s1 A2 c2 N1 A3 c3 O1 A4 c4 B els sy _ _ _ w hS.h0 h.n0.1 h.n0.2 h.o0.1 h.o0.2 h.n1.1 h.n1.2 h.o1.1 h.o1.2 h.b.1 h.b.2 hk
theorem dchk_c (h : Cp A0 c0 N0 A1 c1 O0 A2 c2 N1 A3 c3 O1 A4 c4 B w) (sy : Int) :
  Calls Tryd.prog 46 #[.agg #[.int .i64 s0, .slice A0 N0.length c0, .slice A1 O0.length c1, .int .i64 s1, .slice A2 N1.length c2, .slice A3 O1.length c3, .slice A4 B.length c4, .bool els], .int .i64 sy] w fun e w' => e = .returned (.int .i64 (if pokB s0 N0 O0 s1 N1 O1 B sy then 0 else 1)) ∧ Below w.heap.size w w' := by
 obtain ⟨k, hk⟩ := (dp_check_ev (b := els) (sy := sy) (rows_bnd h.n0.1) (rows_bnd h.o0.1) (rows_bnd h.n1.1) (rows_bnd h.o1.1)).rounds
 exact caesuraref14_Check.calls k s0 A0 c0 N0 A1 c1 O0 s1 A2 c2 N1 A3 c3 O1 A4 c4 B els sy _ w h.n0.1 h.n0.2 h.o0.1 h.o0.2 h.n1.1 h.n1.2 h.o1.1 h.o1.2 h.b.1 h.b.2 hk
theorem pdec_c (h : Cp A0 c0 N0 A1 c1 O0 A2 c2 N1 A3 c3 O1 A4 c4 B w) (hS : Sen a0 a1 a2 w) (hw : Kd.C kI w A5 word.length word ∧ word.length ≤ c5) (hl : word.length ≤ 17592186043904) :
  Calls Tryd.prog 39 #[.agg #[.int .i64 s0, .slice A0 N0.length c0, .slice A1 O0.length c1, .int .i64 s1, .slice A2 N1.length c2, .slice A3 O1.length c3, .slice A4 B.length c4, .bool els], .slice A5 word.length c5] w fun e w' => ∃ v, e = .returned (.tuple #[v, errI (errV a0) (decR s0 N0 O0 s1 N1 O1 B word).2]) ∧ Kd.R kI 3 w' w.heap.size (fun _ => True) v (decR s0 N0 O0 s1 N1 O1 B word).1 ∧ Below w.heap.size w w' := by
 obtain ⟨k, hk⟩ := (p_dec_ev (els := els) hl (rows_bnd h.n0.1) (rows_bnd h.o0.1) (rows_bnd h.n1.1) (rows_bnd h.o1.1)).rounds
 exact pair_Decide.calls k s0 A0 c0 N0 A1 c1 O0 s1 A2 c2 N1 A3 c3 O1 A4 c4 B els A5 c5 word _ _ _ _ w hS.h0 hl h.n0.1 h.n0.2 h.o0.1 h.o0.2 h.n1.1 h.n1.2 h.o1.1 h.o1.2 h.b.1 h.b.2 hw.1 hw.2 hk
theorem ddec_c (h : Cp A0 c0 N0 A1 c1 O0 A2 c2 N1 A3 c3 O1 A4 c4 B w) (hw : Kd.C kI w A5 word.length word ∧ word.length ≤ c5) (hl : word.length ≤ 17592186043904) :
  Calls Tryd.prog 40 #[.agg #[.int .i64 s0, .slice A0 N0.length c0, .slice A1 O0.length c1, .int .i64 s1, .slice A2 N1.length c2, .slice A3 O1.length c3, .slice A4 B.length c4, .bool els], .slice A5 word.length c5] w fun e w' => ∃ v, e = .returned (.tuple #[v, .int .i64 (decR s0 N0 O0 s1 N1 O1 B word).2]) ∧ Kd.R kI 3 w' w.heap.size (fun _ => True) v (decR s0 N0 O0 s1 N1 O1 B word).1 ∧ Below w.heap.size w w' := by
 obtain ⟨k, hk⟩ := (doc_dec_ev (els := els) (show word.length ≤ 17592186044400 by omega) (rows_bnd h.n0.1) (rows_bnd h.o0.1) (rows_bnd h.n1.1) (rows_bnd h.o1.1)).rounds
 exact caesuraref14_Decide.calls k s0 A0 c0 N0 A1 c1 O0 s1 A2 c2 N1 A3 c3 O1 A4 c4 B els A5 c5 word _ _ w h.n0.1 h.n0.2 h.o0.1 h.o0.2 h.n1.1 h.n1.2 h.o1.1 h.o1.2 h.b.1 h.b.2 hw.1 hw.2 hk
theorem pbrk_c (h : Cp A0 c0 N0 A1 c1 O0 A2 c2 N1 A3 c3 O1 A4 c4 B w) (hS : Sen a0 a1 a2 w) (hw : Kd.C kI w A5 word.length word ∧ word.length ≤ c5) (hl : word.length ≤ 17592186043904) :
  Calls Tryd.prog 41 #[.agg #[.int .i64 s0, .slice A0 N0.length c0, .slice A1 O0.length c1, .int .i64 s1, .slice A2 N1.length c2, .slice A3 O1.length c3, .slice A4 B.length c4, .bool els], .slice A5 word.length c5] w fun e w' => ∃ v, e = .returned (.tuple #[v, errI (errV a0) (brkR s0 N0 O0 s1 N1 O1 B els word).2]) ∧ Kd.R kI 3 w' w.heap.size (fun _ => True) v (brkR s0 N0 O0 s1 N1 O1 B els word).1 ∧ Below w.heap.size w w' := by
 obtain ⟨k, hk⟩ := (p_brk_ev (els := els) hl (rows_bnd h.n0.1) (rows_bnd h.o0.1) (rows_bnd h.n1.1) (rows_bnd h.o1.1)).rounds
 exact pair_Breaks.calls k s0 A0 c0 N0 A1 c1 O0 s1 A2 c2 N1 A3 c3 O1 A4 c4 B els A5 c5 word _ _ _ _ w hS.h0 hl h.n0.1 h.n0.2 h.o0.1 h.o0.2 h.n1.1 h.n1.2 h.o1.1 h.o1.2 h.b.1 h.b.2 hw.1 hw.2 hk
theorem dbrk_c (h : Cp A0 c0 N0 A1 c1 O0 A2 c2 N1 A3 c3 O1 A4 c4 B w) (hw : Kd.C kI w A5 word.length word ∧ word.length ≤ c5) (hl : word.length ≤ 17592186043904) :
  Calls Tryd.prog 42 #[.agg #[.int .i64 s0, .slice A0 N0.length c0, .slice A1 O0.length c1, .int .i64 s1, .slice A2 N1.length c2, .slice A3 O1.length c3, .slice A4 B.length c4, .bool els], .slice A5 word.length c5] w fun e w' => ∃ v, e = .returned (.tuple #[v, .int .i64 (brkR s0 N0 O0 s1 N1 O1 B els word).2]) ∧ Kd.R kI 3 w' w.heap.size (fun _ => True) v (brkR s0 N0 O0 s1 N1 O1 B els word).1 ∧ Below w.heap.size w w' := by
 obtain ⟨k, hk⟩ := (doc_brk_ev (els := els) (show word.length ≤ 17592186044400 by omega) (rows_bnd h.n0.1) (rows_bnd h.o0.1) (rows_bnd h.n1.1) (rows_bnd h.o1.1)).rounds
 exact caesuraref14_Breaks.calls k s0 A0 c0 N0 A1 c1 O0 s1 A2 c2 N1 A3 c3 O1 A4 c4 B els A5 c5 word _ _ w h.n0.1 h.n0.2 h.o0.1 h.o0.2 h.n1.1 h.n1.2 h.o1.1 h.o1.2 h.b.1 h.b.2 hw.1 hw.2 hk
theorem psize_c (h : Cp A0 c0 N0 A1 c1 O0 A2 c2 N1 A3 c3 O1 A4 c4 B w) : Calls Tryd.prog 43 #[.agg #[.int .i64 s0, .slice A0 N0.length c0, .slice A1 O0.length c1, .int .i64 s1, .slice A2 N1.length c2, .slice A3 O1.length c3, .slice A4 B.length c4, .bool els]] w fun e w' => e = .returned (.int .i64 (wrap64 ((N0.length : Int) + (N1.length : Int)))) ∧ Below w.heap.size w w' :=
 pair_Size.calls s0 A0 c0 N0 A1 c1 O0 s1 A2 c2 N1 A3 c3 O1 A4 c4 B els _ w h.n0.1 h.n0.2 h.o0.1 h.o0.2 h.n1.1 h.n1.2 h.o1.1 h.o1.2 h.b.1 h.b.2 rfl
theorem dsize_c (h : Cp A0 c0 N0 A1 c1 O0 A2 c2 N1 A3 c3 O1 A4 c4 B w) : Calls Tryd.prog 47 #[.agg #[.int .i64 s0, .slice A0 N0.length c0, .slice A1 O0.length c1, .int .i64 s1, .slice A2 N1.length c2, .slice A3 O1.length c3, .slice A4 B.length c4, .bool els]] w fun e w' => e = .returned (.int .i64 (wrap64 ((N0.length : Int) + (N1.length : Int)))) ∧ Below w.heap.size w w' :=
 caesuraref14_Size.calls s0 A0 c0 N0 A1 c1 O0 s1 A2 c2 N1 A3 c3 O1 A4 c4 B els _ w h.n0.1 h.n0.2 h.o0.1 h.o0.2 h.n1.1 h.n1.2 h.o1.1 h.o1.2 h.b.1 h.b.2 rfl
theorem sameP_ev (h0 : N0.length ≤ 9223372036854775807) (h0r : ∀ x ∈ N0, x.length ≤ 9223372036854775807) (h1 : O0.length ≤ 9223372036854775807) (h1r : ∀ x ∈ O0, x.length ≤ 9223372036854775807) (h2 : N1.length ≤ 9223372036854775807) (h2r : ∀ x ∈ N1, x.length ≤ 9223372036854775807) (h3 : O1.length ≤ 9223372036854775807) (h3r : ∀ x ∈ O1, x.length ≤ 9223372036854775807) (h4 : B.length ≤ 9223372036854775807) :
  Ev (fun k => caesuraref0_SamePairing.f k s0 N0 O0 s1 N1 O1 B els s0 N0 O0 s1 N1 O1 B els) true := by
 have mach : ∀ (s : Int) (N O : LL), N.length ≤ 9223372036854775807 → (∀ x ∈ N, x.length ≤ 9223372036854775807) → O.length ≤ 9223372036854775807 → (∀ x ∈ O, x.length ≤ 9223372036854775807) → Ev (fun k => caesuraref0_SameMachine.f k s N O s N O) true := fun s N O e1 e2 e3 e4 => by
  unfold caesuraref0_SameMachine.f
  refine Ev.bind (sameRows_ev N e1 e2) (Ev.bind (sameRows_ev O e3 e4) ?_)
  rw [if_pos rfl, if_pos rfl, beq_self_eq_true]
  exact Ev.now _
 have key : ∀ (d i : Nat), i ≤ B.length → B.length - i = d → Ev (fun k => caesuraref0_SamePairing.l0 k i s0 N0 O0 s1 N1 O1 B els s0 N0 O0 s1 N1 O1 B els) true := by
  intro d
  induction d with
  | zero =>
   intro i hi hd
   refine Ev.step (f := fun _ => some true) (fun k => ?_) (Ev.now _)
   conv => lhs; unfold caesuraref0_SamePairing.l0
   rw [if_neg (by omega)]
  | succ d ih =>
   intro i hi hd
   have hil : i < B.length := by omega
   have hnext := ih (i + 1) (by omega) (by omega)
   have hw := wsucc hil h4
   rw [← hw] at hnext
   clear hw
   refine Ev.step (fun k => ?_) hnext
   conv => lhs; unfold caesuraref0_SamePairing.l0
   rw [if_pos (by omega), if_pos (by omega), if_pos (by omega), if_neg (by simp)]
 unfold caesuraref0_SamePairing.f
 refine Ev.bind (mach s0 N0 O0 h0 h0r h1 h1r) (Ev.bind (mach s1 N1 O1 h2 h2r h3 h3r) ?_)
 refine Ev.congr (fun k => if_pos rfl) (Ev.congr (fun k => if_pos rfl) (Ev.congr (fun k => if_neg (by simp)) ?_))
 rw [show ((B.length : Int) != (B.length : Int)) = false by simp]
 exact Ev.step (fun k => rfl) (key B.length 0 (by omega) (by omega))
theorem same_c {B0 B1 B2 B3 B4 : Option Addr} {d0 d1 d2 d3 d4 : Nat} (h : Cp A0 c0 N0 A1 c1 O0 A2 c2 N1 A3 c3 O1 A4 c4 B w) (h' : Cp B0 d0 N0 B1 d1 O0 B2 d2 N1 B3 d3 O1 B4 d4 B w) :
  Calls Tryd.prog 45 #[.agg #[.int .i64 s0, .slice A0 N0.length c0, .slice A1 O0.length c1, .int .i64 s1, .slice A2 N1.length c2, .slice A3 O1.length c3, .slice A4 B.length c4, .bool els], .agg #[.int .i64 s0, .slice B0 N0.length d0, .slice B1 O0.length d1, .int .i64 s1, .slice B2 N1.length d2, .slice B3 O1.length d3, .slice B4 B.length d4, .bool els]] w fun e w' => e = .returned (.bool true) ∧ Below w.heap.size w w' := by
 obtain ⟨k, hk⟩ := (sameP_ev (s0 := s0) (s1 := s1) (els := els) (C_bound h.n0.1) (rows_bnd h.n0.1) (C_bound h.o0.1) (rows_bnd h.o0.1) (C_bound h.n1.1) (rows_bnd h.n1.1) (C_bound h.o1.1) (rows_bnd h.o1.1) (C_bound h.b.1)).rounds
 exact caesuraref0_SamePairing.calls k s0 A0 c0 N0 A1 c1 O0 s1 A2 c2 N1 A3 c3 O1 A4 c4 B els s0 B0 d0 N0 B1 d1 O0 s1 B2 d2 N1 B3 d3 O1 B4 d4 B els true w h.n0.1 h.n0.2 h.o0.1 h.o0.2 h.n1.1 h.n1.2 h.o1.1 h.o1.2 h.b.1 h.b.2 h'.n0.1 h'.n0.2 h'.o0.1 h'.o0.2 h'.n1.1 h'.n1.2 h'.o1.1 h'.o1.2 h'.b.1 h'.b.2 hk
theorem ints_c {X : List Int} {A6 : Option Addr} {c6 : Nat} (h4 : Kd.C kI w A5 X.length X) (hc4 : X.length ≤ c5) (h5 : Kd.C kI w A6 X.length X) (hc5 : X.length ≤ c6) :
  Calls Tryd.prog 16 #[.slice A5 X.length c5, .slice A6 X.length c6] w fun e w' => e = .returned (.bool true) ∧ Below w.heap.size w w' := by
 obtain ⟨k, hk⟩ := (sameInts_ev X (C_bound h4)).rounds
 refine (caesuraref0_SameInts.calls k A5 c5 X A6 c6 X true w h4 hc4 h5 hc5 hk).mono ?_
 rintro e w1 ⟨rfl, ⟨⟨n, rfl⟩⟩⟩
 exact ⟨rfl, pw_below_drewN (Below.refl _ _) n⟩
theorem errI_num (r : Int) (hr : r = 0 ∨ r = 1) (hS : Sen a0 a1 a2 w) : Calls Tryd.prog 17 #[errI (errV a0) r] w fun e w' => e = .returned (.int .i64 r) ∧ Below w.heap.size w w' := by
 rcases hr with rfl | rfl
 ·exact num_calls w hS 0 (.inl rfl)
 ·exact num_calls w hS 1 (.inr (.inl rfl))
theorem dec_code : (decR s0 N0 O0 s1 N1 O1 B word).2 = 0 ∨ (decR s0 N0 O0 s1 N1 O1 B word).2 = 1 := by
 unfold decR
 split
 ·exact .inl rfl
 ·exact .inr rfl
theorem brk_code : (brkR s0 N0 O0 s1 N1 O1 B els word).2 = 0 ∨ (brkR s0 N0 O0 s1 N1 O1 B els word).2 = 1 := by
 unfold brkR
 split
 ·split
  ·exact .inl rfl
  ·exact .inl rfl
 ·exact .inr rfl
theorem chk_code {sy : Int} : (if pokB s0 N0 O0 s1 N1 O1 B sy then (0 : Int) else 1) = 0 ∨ (if pokB s0 N0 O0 s1 N1 O1 B sy then (0 : Int) else 1) = 1 := by
 split
 ·exact .inl rfl
 ·exact .inr rfl
end
end Go.Proofs.YtfonajakaimnoaaDoor.C14

namespace Go.Proofs.YtfonajakaimnoaaDoor.Lib
open Go.RowKit Go.Proofs.YtfonajakaimnoaaDoorW.PrintWords Go.Proofs.YtfonajakaimnoaaDoorW.PrintLast Go.Proofs.YtfonajakaimnoaaDoorW.PrintMore
attribute [local go_sem] max2_int min2_int max_two min_two max_three min_three max_four min_four   -- for this text's walks alone
set_option linter.unusedVariables false
set_option linter.unusedSimpArgs false
def caesurakit_Ints.l0 : Nat → List Int → List Int → Int → Option (List Int)
 | 0, _, _, _ => none
 | k + 1, x0, x3, x4 => if x4 < (x0.length : Int) then (if 0 ≤ x4 then (if x3.length < 17592186044416 then (caesurakit_Ints.l0 k x0 (x3 ++ [rd x0 x4]) (wrap64 (x4 + 1))) else (none)) else (none)) else (some x3)
def caesurakit_Ints.f (k : Nat) (l0 : List Int) : Option (List Int) := caesurakit_Ints.l0 k l0 ([] : List Int) 0
set_option maxHeartbeats 8000000 in
set_option maxRecDepth 100000 in
theorem caesurakit_Ints.calls (k : Nat) (A0 : Option Addr) (c0 : Nat) (l0 : List Int) (r : List Int) (w : World) (hr0 : Kd.C (Kd.int .i64) w A0 l0.length l0) (hc0 : l0.length ≤ c0) (h : caesurakit_Ints.f k l0 = some r) :
  Calls Tryd.prog 71 #[.slice A0 l0.length c0] w fun e w' => ∃ v0_ : Value, e = .returned (v0_) ∧ Kd.R (Kd.int .i64) 3 w' w.heap.size (fun _ => True) v0_ r ∧ Below w.heap.size w w' := by
 have HR0 := Aside0.mk hr0
 have HC0 := Aside0.mk hc0
 clear hr0 hc0
 have HB := Aside0.mk (Below.refl w.heap.size w)
 have H : (caesurakit_Ints.l0 k l0 ([] : List Int) 0) = some r := h
 clear h
 have H' := Aside0.mk H
 clear H
 go_enter Tryd.func71, Tryd.ntmps71
 go_wp2
 go_loopg [3, 4] k (fun kq v3 v4 w' => ∃ (x3_1 : List Int) (x4_1 : Int), v4 = .int .i64 x4_1 ∧ Aside0 (caesurakit_Ints.l0 kq l0 x3_1 x4_1 = some r) ∧ Aside0 (kq ≤ k) ∧ Aside0 (Kd.R (Kd.int .i64) 3 w' w.heap.size (fun _ => True) v3 x3_1) ∧ Aside0 (Below w.heap.size w w'))
 case atStart => exact ⟨(([] : List Int)), (0), (by first | rfl | (simp; done) | (simp [*]; done)), H', ⟨Nat.le_refl _⟩, ⟨by first | exact Kd.R_nil _ _ _ _ _ | exact Kd.N_nil _ _ _ _ _ | exact Kd.V_nil _ _ _ _ _ | exact Kd.Q_nil _ _ _ _ _ | exact Kd.S_nil _ _ _ _ _⟩, ⟨by repeat (first | (with_reducible first | exact HB.out | apply below_alloc | apply pw_below_drewN | apply below_drew1) | exact HB.out)⟩⟩
 case round =>
  clear H'
  obtain ⟨x3_1, x4_1, rfl, HA, HK1, HO_3, HB⟩ := hrel
  cases gk with
  | zero => exact absurd HA.out (by simp [caesurakit_Ints.l0])
  | succ k1 =>
   have H := HA.out
   clear HA
   simp only [caesurakit_Ints.l0] at H
   by_cases c2 : x4_1 < (l0.length : Int)
   ·rw [if_pos c2] at H
    have c2b0 : decide (x4_1 < (l0.length : Int)) = true := decide_eq_true c2
    clear c2
    by_cases c3 : 0 ≤ x4_1
    ·rw [if_pos c3] at H
     have c3b0 : decide (0 ≤ x4_1) = true := decide_eq_true c3
     clear c3
     by_cases c4 : x3_1.length < 17592186044416
     ·rw [if_pos c4] at H
      have LMc4 := Aside0.mk c4
      clear c4
      obtain ⟨y224, hy224⟩ : ∃ y_ : List Int, y_ = (x3_1 ++ [rd l0 x4_1]) := ⟨_, rfl⟩
      replace H : (caesurakit_Ints.l0 k1 l0 y224 (wrap64 (x4_1 + 1))) = some r := by first | (rw [hy224]; with_reducible exact H) | (have H2_ := (Option.bind_some _ _).symm.trans H; rw [hy224]; with_reducible exact H2_) | (have H2_ := (Option.bind_some _ _).symm.trans H; with_reducible exact H2_) | with_reducible exact H | (rw [hy224]; exact H) | exact H
      have Ny224 := Aside0.mk hy224
      clear hy224
      have H' := Aside0.mk H
      clear H
      have p223 : 0 ≤ (x4_1 : Int) := of_decide_eq_true (by first | (with_reducible assumption) | assumption)
      have q223 : x4_1 < (l0.length : Int) := of_decide_eq_true (by first | (with_reducible assumption) | assumption)
      obtain ⟨ad223, e223, hx223_0⟩ := Kd.at_int HR0.out x4_1 p223 q223
      cases e223
      replace hx223_0 := (HB.out.cell (World.block_lt_of_cell? w _ hx223_0)).trans hx223_0
      replace p223 := eq_true p223
      replace q223 := eq_true q223
      go_wp2_with (first | ((with_reducible refine gate_builtin (b := .append) (xs := #[.tmp 11, .tmp 16]) rfl ?_); at_builtin; refine Kd.R_append (Kd.int .i64) (w0 := w) w.heap.size rfl (.tmp 11) (.tmp 16) 25 3 (.int .i64 0) 8 rfl Tryd.underlying25 info3 rfl (by decide) (by omega) u3 x3_1 (rd l0 x4_1) [.int .i64 (rd l0 x4_1)] (fun _ => True) (fun _ => False) rfl rfl ?aP (fun _ hk => hk.elim) ?aF ?aO ?aB ?aS ?aL ?_; (case aP => exact rfl); (case aB => exact (by repeat (first | (with_reducible first | exact HB.out | apply below_alloc | apply pw_below_drewN | apply below_drew1) | exact HB.out))); (case aF => exact (fun _ _ => trivial)); (case aO => exact (by (with_reducible repeat (first | apply Kd.R_alloc | apply Kd.R_drewN | apply Kd.R_drew)); exact HO_3.out)); (case aS => exact (below_size (by repeat (first | (with_reducible first | exact HB.out | apply below_alloc | apply pw_below_drewN | apply below_drew1) | exact HB.out)))); (case aL => have := LMc4.out; omega); intro v225 w5 ho hb hg hat; rw [← Ny224.out] at ho; have n0_ := Aside0.mk (hb); have n1_ := Aside0.mk (ho); clear HB; clear HO_3; have HB := n0_; have HO226 := n1_; clear n0_ n1_; clear ho hb hg hat))
      go_roundg k1
      case measure => have := HK1.out; omega
      case rel => exact ⟨(y224), (wrap64 (x4_1 + 1)), (by first | rfl | (simp; done) | (simp [*]; done)), H', ⟨by have := HK1.out; omega⟩, ⟨by (with_reducible repeat (first | apply Kd.R_alloc | apply Kd.R_drewN | apply Kd.R_drew)); exact HO226.out⟩, ⟨by repeat (first | (with_reducible first | exact HB.out | apply below_alloc | apply pw_below_drewN | apply below_drew1) | exact HB.out)⟩⟩
     ·rw [if_neg c4] at H
      exact absurd H (by simp)
    ·rw [if_neg c3] at H
     exact absurd H (by simp)
   ·rw [if_neg c2] at H
    have c2b0 : decide (x4_1 < (l0.length : Int)) = false := decide_eq_false c2
    clear c2
    obtain rfl := Option.some.inj H
    go_wp2
    go_ret
    exact ⟨_, by first | rfl | (simp [errW_none, errW_some] <;> rfl) | (simp [*, errW_none, errW_some] <;> rfl), by (with_reducible repeat (first | apply Kd.R_alloc | apply Kd.R_drewN | apply Kd.R_drew)); exact HO_3.out, by repeat (first | (with_reducible first | exact HB.out | apply below_alloc | apply pw_below_drewN | apply below_drew1) | exact HB.out)⟩
end Go.Proofs.YtfonajakaimnoaaDoor.Lib

namespace Go.Proofs.YtfonajakaimnoaaDoor.Lend
open Go.RowKit Go.Proofs.YtfonajakaimnoaaDoorW.PrintWords Go.Proofs.YtfonajakaimnoaaDoorW.PrintLast Go.Proofs.YtfonajakaimnoaaDoorW.PrintMore Go.Proofs.YtfonajakaimnoaaDoor.Lib Lent Go.Proofs.YtfonajakaimnoaaDoor.Fn Go.Proofs.YtfonajakaimnoaaDoor.C11
set_option linter.unusedVariables false
set_option linter.unusedSimpArgs false
attribute [local go_sem] max2_int min2_int max_two min_two max_three min_three max_four min_four
theorem ints_loop (l : List Int) (hl : l.length ≤ 17592186043904) : ∀ (d i k : Nat) (acc : List Int), i ≤ l.length → l.length - i = d → acc.length = i → d < k → caesurakit_Ints.l0 k l acc i = some (acc ++ l.drop i) := by
 intro d
 induction d with
 | zero =>
  intro i k acc hi hd ha hk
  obtain ⟨k, rfl⟩ : ∃ m, k = m + 1 := ⟨k - 1, by omega⟩
  simp only [caesurakit_Ints.l0]
  rw [if_neg (by omega), List.drop_of_length_le (by omega), List.append_nil]
 | succ d ih =>
  intro i k acc hi hd ha hk
  obtain ⟨k, rfl⟩ : ∃ m, k = m + 1 := ⟨k - 1, by omega⟩
  have hw : wrap64 ((i : Int) + 1) = ((i + 1 : Nat) : Int) := by rw [wrap_succ (n := l.length) (by omega) (by omega) (by omega)]; omega
  simp only [caesurakit_Ints.l0]
  rw [if_pos (by omega), if_pos (by omega), if_pos (by omega), hw, ih (i + 1) k _ (by omega) (by omega) (by simp [ha]) (by omega)]
  have : rd l (i : Int) = l[i] := by
   unfold rd
   rw [show ((i : Int)).toNat = i from rfl, List.getD_eq_getElem?_getD, List.getElem?_eq_getElem (by omega)]
   rfl
  rw [this, List.append_assoc, List.drop_eq_getElem_cons (show i < l.length by omega)]
  rfl
theorem ints_eq (l : List Int) (hl : l.length ≤ 17592186043904) : caesurakit_Ints.f (l.length + 1) l = some l := by
 unfold caesurakit_Ints.f
 have := ints_loop l hl l.length 0 (l.length + 1) [] (by omega) (by omega) rfl (by omega)
 simpa using this
theorem cut_past (A : Option Addr) (n c : Nat) (j : Int) (h0 : 0 ≤ j) (hj : j ≤ (c : Int)) (W : World) : (Instr.slice 25 (.slice A n c) none (some (.int .i64 j)) none).run Tryd.prog W = .ok (.slice A j.toNat c) W := by
 obtain ⟨i, hi, _⟩ := Option.map_eq_some_iff.1 info3
 have hel : Tryd.prog.elem 25 = 3 := by simp [Program.elem, Tryd.underlying25]
 have hu : Tryd.prog.underlying 25 = some (.slice (Tryd.prog.elem 25)) := by rw [hel]; exact Tryd.underlying25
 have ha : (A.map fun x => x.add 0) = A := by cases A <;> simp [Addr.add]
 rw [run_slice_h W 25 A n c hu .i64 j h0 hj, hel]
 simp [sizeOf, typeInfo, hi, sliced, ha, Result.andThen]
abbrev marks (l : List Int) : List Int := l ++ [-77, -77]
theorem two_lit {W : World} : Kd.C kI (W.alloc (.cells #[.int .i64 (-77), .int .i64 (-77)] 3)) (some ⟨W.heap.size, 0, none⟩) 2 [-77, -77] :=
 ⟨rfl, by decide, fun _ => ⟨_, rfl, fun j p hj => by
  rcases j with _ | _ | j
  ·simp at hj
   subst hj
   refine ⟨_, rfl, rfl, fun i u hu => ?_⟩
   cases i with
   | zero =>
    simp only [List.getElem?_cons_zero, Option.some.injEq] at hu
    subst hu
    show (W.alloc _).cell? ⟨W.heap.size, 0, none⟩ = _
    go_simp
   | succ i => simp at hu
  ·simp at hj
   subst hj
   refine ⟨_, rfl, rfl, fun i u hu => ?_⟩
   cases i with
   | zero =>
    simp only [List.getElem?_cons_zero, Option.some.injEq] at hu
    subst hu
    show (W.alloc _).cell? ⟨W.heap.size, 1, none⟩ = _
    go_simp
   | succ i => simp at hu
  ·simp at hj⟩⟩
theorem marked_row {w : World} {base : Nat} {v : Value} {l : List Int} (h : Kd.R kI 3 w base (fun _ => True) v (l ++ [-77, -77])) :
  ∃ A c m, v = .slice A m c ∧ Kd.R kI 3 w base (fun _ => True) (.slice A (marks l).length c) (marks l) ∧ ∀ W : World, (Instr.slice 25 (.slice A m c) none (some (.int .i64 l.length)) none).run Tryd.prog W = .ok (.slice A l.length c) W := by
 obtain ⟨A, c, e1, hle, _⟩ := Kd.R_reads h
 have hm : (l ++ [-77, -77]).length = l.length + 2 := by simp
 refine ⟨A, c, _, e1, by rw [← e1]; exact h, fun W => ?_⟩
 have := cut_past A (l ++ [-77, -77]).length c (l.length : Int) (by omega) (by omega) W
 rwa [Int.toNat_natCast] at this
set_option maxHeartbeats 2000000 in
set_option maxRecDepth 10000 in
theorem list_calls (A0 : Option Addr) (c0 : Nat) (l : List Int) (w : World) (hr : Kd.C kI w A0 l.length l) (hc : l.length ≤ c0) (hl : l.length ≤ 17592186043904) :
  Calls Tryd.prog 21 #[.slice A0 l.length c0] w fun e w' => ∃ A c, e = .returned (.slice A l.length c) ∧ Kd.R kI 3 w' w.heap.size (fun _ => True) (.slice A (marks l).length c) (marks l) ∧ Below w.heap.size w w' := by
 have hu := Tryd.underlying25
 have HR := Aside0.mk hr
 have HL := Aside0.mk hl
 have HC := Aside0.mk hc
 clear hr hc
 go_enter Tryd.func21, Tryd.ntmps21
 go_wp2_with fail
 refine (caesurakit_Ints.calls (l.length + 1) A0 c0 l l w HR.out HC.out (ints_eq l HL.out)).mono ?_
 rintro e w1 ⟨v, rfl, ho, hb⟩
 have HO := Aside0.mk ho
 have HB := Aside0.mk hb
 clear ho hb
 go_wp2_with ((with_reducible refine gate_builtin (b := .append) (xs := #[.tmp 6, .tmp 7]) rfl ?_); at_builtin; refine Kd.R_append_rows kI (w0 := w) w.heap.size rfl (.tmp 6) (.tmp 7) 25 3 (.int .i64 0) 8 rfl Tryd.underlying25 info3 rfl (by decide) (by omega) _ l [-77, -77] _ _ _ (fun _ => True) (fun _ => False) rfl rfl ?aO ?aR (fun _ _ h => h) (fun _ h => h.elim) ?aF ?aB ?aS ?aL ?_; (case aR => exact two_lit); (case aB => exact below_alloc HB.out _); (case aF => exact (fun _ _ => trivial)); (case aO => exact Kd.R_alloc HO.out _); (case aS => exact (by have := HB.out.size; simp; omega)); (case aL => have := HL.out; simp; omega); intro vz wz hoz hbz hgz hatz; have HB1 := Aside0.mk hbz; obtain ⟨A, c, m, e1, HO2, hcut⟩ := marked_row hoz; subst e1; have HO3 := Aside0.mk HO2; clear HO2 hoz hbz hgz hatz)
 go_ret
 exact ⟨A, c, rfl, HO3.out, HB1.out⟩
theorem mark_at {w : World} {A : Option Addr} {l : List Int} (h : Kd.C kI w A (marks l).length (marks l)) : ∃ ad, A = some ad ∧ w.cell? (ad.add l.length) = some (.int .i64 (-77)) ∧ w.cell? (ad.add (l.length + 1)) = some (.int .i64 (-77)) := by
 obtain ⟨ad, e, h1⟩ := int_at h l.length (-77) (by simp [marks])
 obtain ⟨ad', e', h2⟩ := int_at h (l.length + 1) (-77) (by simp [marks])
 cases e
 cases e'
 exact ⟨ad, rfl, h1, h2⟩
set_option maxHeartbeats 2000000 in
set_option maxRecDepth 10000 in
theorem listLeft_calls (A : Option Addr) (c : Nat) (l : List Int) (w : World) (hr : Kd.C kI w A (marks l).length (marks l)) (hc : (marks l).length ≤ c) (hl : l.length ≤ 17592186043904) :
  Calls Tryd.prog 28 #[.slice A l.length c] w fun e w' => e = .returned (.bool true) ∧ Below w.heap.size w w' := by
 have hu := Tryd.underlying25
 obtain ⟨ad, rfl, h1, h2⟩ := mark_at hr
 have hm : (marks l).length = l.length + 2 := by simp [marks]
 have hcut := cut_past (some ad) l.length c ((l.length : Int) + 2) (by omega) (by omega)
 have e2 : ((l.length : Int) + 2).toNat = l.length + 2 := by omega
 rw [e2] at hcut
 have hb1 : (l.length : Int) < ((l.length + 2 : Nat) : Int) := by omega
 have hb2 : (l.length : Int) + 1 < ((l.length + 2 : Nat) : Int) := by omega
 have hb3 : l.length < l.length + 2 := by omega
 have hb4 : l.length + 1 < l.length + 2 := by omega
 have h3 : w.cell? { block := ad.block, off := ad.off + (l.length + 1) } = some (.int .i64 (-77)) := by simpa [Addr.add] using h2
 have HR := Aside0.mk hr
 clear hr hm e2
 go_enter Tryd.func28, Tryd.ntmps28
 go_wp2_with fail
 repeat (go_quiet (fail); try go_wp2)
 go_ret
 exact ⟨rfl, by repeat (first | exact Below.refl _ _ | apply pw_below_drewN | apply below_drew1)⟩
end Go.Proofs.YtfonajakaimnoaaDoor.Lend

namespace Go.Proofs.YtfonajakaimnoaaDoor.Lend
open Go.RowKit Go.Proofs.YtfonajakaimnoaaDoorW.PrintWords Go.Proofs.YtfonajakaimnoaaDoorW.PrintLast Go.Proofs.YtfonajakaimnoaaDoorW.PrintMore Go.Proofs.YtfonajakaimnoaaDoor.Lib Lent Go.Proofs.YtfonajakaimnoaaDoor.Fn Go.Proofs.YtfonajakaimnoaaDoor.C11
set_option linter.unusedVariables false
set_option linter.unusedSimpArgs false
def kM : Kd (List Int × List Int) where
 sz := 1
 E := 3 :: kI.E
 K := fun w x cs => ∃ A c, cs = [.slice A x.1.length c] ∧ (x.1 ++ x.2).length ≤ c ∧ kI.C w A (x.1 ++ x.2).length (x.1 ++ x.2)
 M := fun w base ok x cs => ∃ A c, cs = [.slice A x.1.length c] ∧ kI.R 3 w base ok (.slice A (x.1 ++ x.2).length c) (x.1 ++ x.2)
 K_len := by
  rintro w x cs ⟨A, c, rfl, _⟩
  rfl
 K_one := by
  rintro w x cs ⟨A, c, rfl, _⟩ u hu
  rw [List.mem_singleton.1 hu]
  rfl
 K_below := by
  rintro w w1 x cs hb ⟨A, c, rfl, hl, hr⟩
  exact ⟨A, c, rfl, hl, Kd.C_below hr hb⟩
 K_of_M := by
  rintro w base ok x cs ⟨A, c, rfl, h⟩
  obtain ⟨_, hl, hr⟩ := Kd.R_reads' h
  exact ⟨A, c, rfl, hl, hr⟩
 M_mono := by
  rintro w base ok ok' x cs hok ⟨A, c, rfl, h⟩
  exact ⟨A, c, rfl, Kd.R_mono h hok⟩
 M_bound := by
  rintro w base ok x cs ⟨A, c, rfl, h⟩
  exact ⟨A, c, rfl, Kd.R_bound h⟩
 M_move := by
  rintro w w1 base ok x cs hm ⟨A, c, rfl, h⟩
  exact ⟨A, c, rfl, Kd.R_move h hm⟩
 M_lower := by
  rintro w base base' ok x cs hb ⟨A, c, rfl, h⟩
  exact ⟨A, c, rfl, Kd.R_lower h hb⟩
abbrev withMarks (L : LL) : List (List Int × List Int) := L.map fun l => (l, [-77, -77])
abbrev rowsM (L : LL) : List (List Int × List Int) := withMarks L ++ [([-77], [])]
theorem rowsM_length (L : LL) : (rowsM L).length = L.length + 1 := by simp
theorem rowsM_get {L : LL} {k : Nat} (h : k < L.length) : (rowsM L)[k]? = some (L[k], [-77, -77]) := by
 rw [List.getElem?_append_left (by simpa using h), List.getElem?_map, List.getElem?_eq_getElem h]
 rfl
theorem rowsM_last (L : LL) : (rowsM L)[L.length]? = some ([-77], []) := by
 rw [List.getElem?_append_right (by simp)]
 simp
theorem lent_C {w : World} {A : Option Addr} {xs : List (List Int × List Int)} (h : kM.C w A xs.length xs) : Kd.C kL w A (xs.map (·.1)).length (xs.map (·.1)) := by
 obtain ⟨_, h2, h3⟩ := h
 rw [List.length_map]
 refine ⟨by simp, h2, fun hn => ?_⟩
 obtain ⟨ad, e, hc⟩ := h3 hn
 refine ⟨ad, e, fun j p hj => ?_⟩
 rw [List.getElem?_map] at hj
 obtain ⟨x, hx, rfl⟩ := Option.map_eq_some_iff.1 hj
 obtain ⟨c, hl, ⟨A', c', rfl, hc', hC⟩, hu⟩ := hc j x hx
 refine ⟨_, hl, ⟨A', c', rfl, by rw [List.length_append] at hc'; omega, C_pre hC⟩, hu⟩
theorem rows_C {w : World} {A : Option Addr} {L : LL} (h : kM.C w A (rowsM L).length (rowsM L)) : Kd.C kL w A L.length L := by
 have := lent_C (C_pre h)
 rw [List.map_map, show (L.map ((fun x => x.1) ∘ fun l => (l, [-77, -77]))) = L from by
  conv => rhs; rw [← List.map_id L]
  rfl] at this
 exact this
theorem rowM_at {w : World} {A : Option Addr} {n : Nat} {xs : List (List Int × List Int)} (h : kM.C w A n xs) (j : Nat) (x : List Int × List Int) (hj : xs[j]? = some x) :
  ∃ ad A' c', A = some ad ∧ w.cell? (ad.add j) = some (.slice A' x.1.length c') ∧ (x.1 ++ x.2).length ≤ c' ∧ Kd.C kI w A' (x.1 ++ x.2).length (x.1 ++ x.2) := by
 obtain ⟨ad, c, e, ⟨A', c', rfl, h1, h2⟩, hu⟩ := C_nth h j x hj
 have := hu 0 _ rfl
 rw [show j * kM.sz + 0 = j from Nat.mul_one _] at this
 exact ⟨ad, A', c', e, this, h1, h2⟩
end Go.Proofs.YtfonajakaimnoaaDoor.Lend

namespace Go.Proofs.YtfonajakaimnoaaDoor.Lend
open Go.RowKit Go.Proofs.YtfonajakaimnoaaDoorW.PrintWords Go.Proofs.YtfonajakaimnoaaDoorW.PrintLast Go.Proofs.YtfonajakaimnoaaDoorW.PrintMore Go.Proofs.YtfonajakaimnoaaDoor.Lib Lent Go.Proofs.YtfonajakaimnoaaDoor.Fn Go.Proofs.YtfonajakaimnoaaDoor.C11
set_option linter.unusedVariables false
set_option linter.unusedSimpArgs false
attribute [local go_sem] max2_int min2_int max_two min_two max_three min_three max_four min_four
theorem cut_rows (A : Option Addr) (n c : Nat) (j : Int) (h0 : 0 ≤ j) (hj : j ≤ (c : Int)) (W : World) : (Instr.slice 22 (.slice A n c) none (some (.int .i64 j)) none).run Tryd.prog W = .ok (.slice A j.toNat c) W := by
 obtain ⟨i, hi, _⟩ := Option.map_eq_some_iff.1 info25
 have hel : Tryd.prog.elem 22 = 25 := by simp [Program.elem, Tryd.underlying22]
 have hu : Tryd.prog.underlying 22 = some (.slice (Tryd.prog.elem 22)) := by rw [hel]; exact Tryd.underlying22
 have ha : (A.map fun x => x.add 0) = A := by cases A <;> simp [Addr.add]
 rw [run_slice_h W 22 A n c hu .i64 j h0 hj, hel]
 simp [sizeOf, typeInfo, hi, sliced, ha, Result.andThen]
theorem one_mark {W : World} {base : Nat} (hb : base ≤ W.heap.size) : Kd.R kI 3 (W.alloc (.cells #[.int .i64 (-77)] 3)) base (fun k => k = W.heap.size) (.slice (some ⟨W.heap.size, 0, none⟩) 1 1) [-77] :=
 ⟨fun k hk => by simpa [Value.ownBlock] using hk.symm, [.int .i64 (-77)], ⟨rfl, .inr ⟨W.heap.size, 1, #[.int .i64 (-77)], rfl, hb, heap_alloc_new _ _, by decide, by simp [maxLen], rfl, rfl⟩⟩, by
  refine ⟨rfl, fun j p hj => ?_⟩
  cases j with
  | zero =>
   simp only [List.getElem?_cons_zero, Option.some.injEq] at hj
   subst hj
   rfl
  | succ j => simp at hj⟩
theorem marked_rows {w : World} {base : Nat} {v : Value} {L : LL} (h : Kd.S kM 25 w base (fun _ => True) v (withMarks L ++ [([-77], [])])) :
  ∃ A c m, v = .slice A m c ∧ Kd.S kM 25 w base (fun _ => True) (.slice A (rowsM L).length c) (rowsM L) ∧ ∀ W : World, (Instr.slice 22 (.slice A m c) none (some (.int .i64 L.length)) none).run Tryd.prog W = .ok (.slice A L.length c) W := by
 obtain ⟨A, c, rfl⟩ := Kd.S_slice h
 have hle := (Kd.S_reads' h).2.1
 simp only [List.length_append, List.length_map, List.length_singleton] at hle
 refine ⟨A, c, _, rfl, h, fun W => ?_⟩
 have := cut_rows A (withMarks L ++ [([-77], [])]).length c (L.length : Int) (by omega) (by omega) W
 rwa [Int.toNat_natCast] at this
set_option maxHeartbeats 2000000 in
set_option maxRecDepth 10000 in
theorem rows_calls (A0 : Option Addr) (c0 : Nat) (L : LL) (w : World) (h0 : Kd.C kL w A0 L.length L) (hL : L.length ≤ 5864062014634) (hLr : ∀ l ∈ L, l.length ≤ 17592186043904) :
  Calls Tryd.prog 70 #[.slice A0 L.length c0] w fun e w' => ∃ A c, e = .returned (.slice A L.length c) ∧ Kd.S kM 25 w' w.heap.size (fun _ => True) (.slice A (rowsM L).length c) (rowsM L) ∧ Below w.heap.size w w' := by
 have hu := Tryd.underlying22
 have H0 := Aside0.mk h0
 have HLr := Aside0.mk hLr
 have hb1 := C_bound h0
 clear h0 hLr
 go_enter Tryd.func70, Tryd.ntmps70
 go_wp2_with fail
 go_loopg [3, 4] L.length (fun gg v3 v4 wr => ∃ (kk : Nat), kk ≤ L.length ∧ L.length - kk ≤ gg ∧ v4 = .int .i64 kk ∧ Aside0 (Kd.S kM 25 wr w.heap.size (fun _ => True) v3 (withMarks (L.take kk))) ∧ Aside0 (Below w.heap.size w wr))
 case atStart => exact ⟨0, Nat.zero_le _, by omega, rfl, ⟨Kd.S_nil _ _ _ _ _⟩, ⟨Below.refl _ _⟩⟩
 case round =>
  obtain ⟨kk, hkk, hg, rfl, HS, HB⟩ := hrel
  by_cases hlt : kk < L.length
  ·have hltz : (kk : Int) < (L.length : Int) := by omega
   obtain ⟨ad, A5, c5, rfl, hcell', h5, h6⟩ := list_at H0.out kk L[kk] (List.getElem?_eq_getElem hlt)
   have hcell := pw_cell_below HB.out hcell'
   have hx : Aside0 (L[kk].length ≤ 17592186043904) := ⟨HLr.out _ (List.getElem_mem hlt)⟩
   have hsn : Aside0 (withMarks (L.take kk) ++ [(L[kk], [-77, -77])] = withMarks (L.take (kk + 1))) := ⟨by show List.map _ _ ++ _ = List.map _ _; rw [List.take_add_one, List.getElem?_eq_getElem hlt, List.map_append]; rfl⟩
   generalize L[kk] = x at hcell hcell' h5 h6 hx hsn
   have H6 := Aside0.mk (And.intro h5 h6)
   clear h5 h6 hcell'
   go_wp2_with fail
   refine (list_calls A5 c5 x wr (Kd.C_below H6.out.2 HB.out) H6.out.1 hx.out).mono ?_
   rintro e wm ⟨A6, c6, rfl, ho, hb⟩
   have HX := Aside0.mk (And.intro (Kd.R_base ho) (Kd.R_lower (Kd.R_tight rfl ho) HB.out.size))
   have HV := Aside0.mk (Kd.S_lt HS.out)
   have HO := Aside0.mk (Kd.S_old HS.out hb)
   replace HB := Aside0.mk (below_step HB.out hb)
   clear HS ho hb
   go_wp2_with ((with_reducible refine gate_builtin (b := .append) (xs := #[.tmp 17, .tmp 19]) rfl ?_); at_builtin; refine Kd.S_append kM (w0 := w) w.heap.size rfl (.tmp 17) (.tmp 19) 22 25 (.slice none 0 0) 24 rfl Tryd.underlying22 info25 rfl (by decide) (by omega) _ (withMarks (L.take kk)) (x, [-77, -77]) [.slice A6 x.length c6] (fun _ => True) (fun k => some k = (Value.slice A6 (marks x).length c6).ownBlock) rfl rfl ?aP ?aK (fun _ _ => trivial) ?aO ?aB ?aS ?aL ?_; (case aP => exact ⟨A6, c6, rfl, HX.out.2⟩); (case aK => exact fun k hk => ⟨trivial, fun he => by have := HX.out.1 k hk.symm; have := HV.out k he.symm; omega⟩); (case aO => exact Kd.S_mono HO.out (fun k hk => ⟨trivial, fun he => by have := HX.out.1 k he.symm; have := hk.2; omega⟩)); (case aB => exact HB.out); (case aS => exact HB.out.size); (case aL => simp only [List.length_map, List.length_take]; omega); intro vz wz hoz hbz hgz hatz; have HS2 := Aside0.mk hoz; have HB2 := Aside0.mk hbz; clear hoz hbz hgz hatz)
   go_roundg (L.length - (kk + 1))
   case measure => omega
   case rel => exact ⟨kk + 1, by omega, by omega, by go_num, ⟨by rw [← hsn.out]; exact HS2.out⟩, HB2⟩
  ·have hltz : ¬ (kk : Int) < (L.length : Int) := by omega
   obtain rfl : L.length = kk := by omega
   rw [List.take_length] at HS
   have HV := Aside0.mk (Kd.S_lt HS.out)
   go_wp2_with ((with_reducible refine gate_builtin (b := .append) (xs := #[.tmp 21, .tmp 23]) rfl ?_); at_builtin; refine Kd.S_append kM (w0 := w) w.heap.size rfl (.tmp 21) (.tmp 23) 22 25 (.slice none 0 0) 24 rfl Tryd.underlying22 info25 rfl (by decide) (by omega) _ (withMarks L) ([-77], []) [.slice (some ⟨wr.heap.size, 0, none⟩) 1 1] (fun _ => True) (fun k => k = wr.heap.size) rfl (by show Value.slice (some ⟨wr.heap.size + 1, 0, none⟩) 1 1 = _; simp) ?aP ?aK (fun _ _ => trivial) ?aO ?aB ?aS ?aL ?_; (case aP => exact ⟨_, _, rfl, one_mark HB.out.size⟩); (case aK => exact fun k hk => ⟨trivial, fun he => by have := HV.out k he.symm; omega⟩); (case aO => exact Kd.S_mono (Kd.S_old HS.out (below_alloc (Below.refl _ _) _)) (fun k hk => ⟨trivial, fun he => by have := hk.2; omega⟩)); (case aB => exact below_alloc HB.out _); (case aS => exact (by have := HB.out.size; simp; omega)); (case aL => simp only [List.length_map]; omega); intro vz wz hoz hbz hgz hatz; obtain ⟨Az, cz, mz, e1, HO2, hcut⟩ := marked_rows hoz; subst e1; have HS2 := Aside0.mk HO2; have HB2 := Aside0.mk hbz; clear HO2 hoz hbz hgz hatz)
   go_ret
   exact ⟨Az, cz, rfl, by have h := HS2.out; rw [rowsM_length] at h; exact h, HB2.out⟩
set_option maxHeartbeats 2000000 in
set_option maxRecDepth 10000 in
theorem rowsLeft_calls (A : Option Addr) (c : Nat) (L : LL) (w : World) (hr : kM.C w A (rowsM L).length (rowsM L)) (hc : (rowsM L).length ≤ c) (hL : L.length ≤ 5864062014634) (hLr : ∀ l ∈ L, l.length ≤ 17592186043904) :
  Calls Tryd.prog 88 #[.slice A L.length c] w fun e w' => e = .returned (.bool true) ∧ Below w.heap.size w w' := by
 have hu := Tryd.underlying22
 have hm := rowsM_length L
 obtain ⟨ad, Az, cz, rfl, hlast, hcz, hCz⟩ := rowM_at hr L.length ([-77], []) (rowsM_last L)
 obtain ⟨az, rfl, hmark⟩ := int_at hCz 0 (-77) rfl
 have hcut := cut_rows (some ad) L.length c ((L.length : Int) + 1) (by omega) (by omega)
 have e2 : ((L.length : Int) + 1).toNat = L.length + 1 := by omega
 rw [e2] at hcut
 have HR := Aside0.mk hr
 have HLr := Aside0.mk hLr
 have HC := Aside0.mk (And.intro hlast hmark)
 clear hr hLr hm hc e2 hcz hCz hlast hmark
 go_enter Tryd.func88, Tryd.ntmps88
 go_wp2_with fail
 go_loopg [4] L.length (fun gg v4 wr => ∃ (kk : Nat), kk ≤ L.length ∧ L.length - kk ≤ gg ∧ v4 = .int .i64 kk ∧ Aside0 (Below w.heap.size w wr))
 case atStart => exact ⟨0, Nat.zero_le _, by omega, rfl, ⟨Below.refl _ _⟩⟩
 case round =>
  obtain ⟨kk, hkk, hg, rfl, HB⟩ := hrel
  by_cases hlt : kk < L.length
  ·have hltz : (kk : Int) < (L.length : Int) := by omega
   obtain ⟨ad', A5, c5, e, hcell', h5, h6⟩ := rowM_at HR.out kk (L[kk], [-77, -77]) (rowsM_get hlt)
   cases e
   have hcell : wr.cell? (ad.add kk) = some (.slice A5 L[kk].length c5) := pw_cell_below HB.out hcell'
   have hx : Aside0 (L[kk].length ≤ 17592186043904) := ⟨HLr.out _ (List.getElem_mem hlt)⟩
   have H6 : Aside0 ((marks L[kk]).length ≤ c5 ∧ Kd.C kI w A5 (marks L[kk]).length (marks L[kk])) := ⟨⟨h5, h6⟩⟩
   generalize L[kk] = x at hcell hx H6
   clear h5 h6 hcell'
   go_wp2_with fail
   refine (listLeft_calls A5 c5 x wr (Kd.C_below H6.out.2 HB.out) H6.out.1 hx.out).mono ?_
   rintro e wm ⟨rfl, hb⟩
   replace HB := Aside0.mk (below_step HB.out hb)
   clear hb
   go_wp2_with fail
   go_roundg (L.length - (kk + 1))
   case measure => omega
   case rel => exact ⟨kk + 1, by omega, by omega, by go_num, HB⟩
  ·have hltz : ¬ (kk : Int) < (L.length : Int) := by omega
   obtain rfl : L.length = kk := by omega
   have hb2 : (L.length : Int) < ((L.length + 1 : Nat) : Int) := by omega
   have hb3 : L.length < L.length + 1 := by omega
   have hl : wr.cell? (ad.add L.length) = some (.slice (some az) 1 cz) := pw_cell_below HB.out HC.out.1
   have hk : wr.cell? (az.add 0) = some (.int .i64 (-77)) := pw_cell_below HB.out HC.out.2
   have hk' : wr.cell? az = some (.int .i64 (-77)) := by simpa [Addr.add] using hk
   go_wp2_with fail
   repeat (go_quiet (fail); try go_wp2)
   go_ret
   exact ⟨rfl, by repeat (first | exact HB.out | apply pw_below_drewN | apply below_drew1)⟩
end Go.Proofs.YtfonajakaimnoaaDoor.Lend

namespace Go.Proofs.YtfonajakaimnoaaDoor.C11
open Go.RowKit Go.Proofs.YtfonajakaimnoaaDoorW.PrintWords Go.Proofs.YtfonajakaimnoaaDoorW.PrintLast Go.Proofs.YtfonajakaimnoaaDoorW.PrintMore Go.Proofs.YtfonajakaimnoaaDoor.Lib Lent Go.Proofs.YtfonajakaimnoaaDoor.Fn Go.Proofs.YtfonajakaimnoaaDoor.Lend
set_option linter.unusedVariables false
set_option linter.unusedSimpArgs false
attribute [local go_sem] max2_int min2_int max_two min_two max_three min_three max_four min_four
abbrev rng (a b : Nat) : Nat → Prop := fun k => a ≤ k ∧ k < b
end Go.Proofs.YtfonajakaimnoaaDoor.C11

namespace Go.Proofs.YtfonajakaimnoaaDoor.C14
open Go.RowKit Go.Proofs.YtfonajakaimnoaaDoorW.PrintWords Go.Proofs.YtfonajakaimnoaaDoorW.PrintLast Go.Proofs.YtfonajakaimnoaaDoorW.PrintMore Go.Proofs.YtfonajakaimnoaaDoor.Lib Lent Go.Proofs.YtfonajakaimnoaaDoor.Fn Go.Proofs.YtfonajakaimnoaaDoor.C11 Go.Proofs.YtfonajakaimnoaaDoor.Lend
set_option linter.unusedVariables false
set_option linter.unusedSimpArgs false
attribute [local go_sem] max2_int min2_int max_two min_two max_three min_three max_four min_four
def kp.T2 : Bool × List (List Nat × List Nat) := (true, [([], []), ([0], [0]), ([1], [1]), ([], []), ([3], [3]), ([4], [4]), ([5], [5]), ([], []), ([7], [7]), ([8], [8]), ([9, 6], [9]), ([2, 6, 10], [2, 6, 10]), ([0, 1, 2, 3, 4, 5, 6, 7, 8, 9, 10, 11], []), ([12, 11, 10, 0, 1, 2, 3, 4, 5, 6, 7, 8, 9, 10, 11], [11, 12])])
def kp.B2 : List Nat := [0, 1, 3, 0, 8, 24, 56, 0, 128, 384, 1016, 2047, 4095, 8191]
theorem kp.tab2 : rtab .any (opsOf Tryd.f37 2) = kp.T2 := by kernel_rfl
theorem kp.bits2 : waitsOk kp.T2.2 kp.B2 = true := by kernel_rfl
def kp.T3 : Bool × List (List Nat × List Nat) := (true, [([], []), ([0], [0]), ([1], [1]), ([], []), ([3], [3]), ([4], [4]), ([5], [5]), ([], []), ([7], [7]), ([8], [8]), ([9, 6], [9]), ([2, 6, 10], [2, 6, 10]), ([0, 1, 2, 3, 4, 5, 6, 7, 8, 9, 10, 11], []), ([12, 11, 10, 0, 1, 2, 3, 4, 5, 6, 7, 8, 9, 10, 11], [11, 12])])
def kp.B3 : List Nat := [0, 1, 3, 0, 8, 24, 56, 0, 128, 384, 1016, 2047, 4095, 8191]
theorem kp.tab3 : rtab .any (opsOf Tryd.f37 3) = kp.T3 := by kernel_rfl
theorem kp.bits3 : waitsOk kp.T3.2 kp.B3 = true := by kernel_rfl
def bmarks (B : List Bool) : List Bool := B ++ [true, false]
structure LQ (base h0 h1 h2 h3 h4 h5 : Nat) (B0 : Option Addr) (d0 : Nat) (N0 : LL) (B1 : Option Addr) (d1 : Nat) (O0 : LL) (B2 : Option Addr) (d2 : Nat) (N1 : LL) (B3 : Option Addr) (d3 : Nat) (O1 : LL) (B4 : Option Addr) (d4 : Nat) (B : List Bool) (W : World) : Prop where
 p0 : Kd.S kM 25 W base (rng h0 h1) (.slice B0 (rowsM N0).length d0) (rowsM N0)
 p1 : Kd.S kM 25 W base (rng h1 h2) (.slice B1 (rowsM O0).length d1) (rowsM O0)
 p2 : Kd.S kM 25 W base (rng h2 h3) (.slice B2 (rowsM N1).length d2) (rowsM N1)
 p3 : Kd.S kM 25 W base (rng h3 h4) (.slice B3 (rowsM O1).length d3) (rowsM O1)
 p4 : Kd.R kB 4 W base (rng h4 h5) (.slice B4 (bmarks B).length d4) (bmarks B)
 o : base ≤ h0 ∧ h0 ≤ h1 ∧ h1 ≤ h2 ∧ h2 ≤ h3 ∧ h3 ≤ h4 ∧ h4 ≤ h5 ∧ h5 ≤ W.heap.size
section
variable {base h0 h1 h2 h3 h4 h5 : Nat} {B0 B1 B2 B3 B4 : Option Addr} {d0 d1 d2 d3 d4 : Nat} {N0 O0 N1 O1 : LL} {B : List Bool} {W W' : World}
theorem LQ.move (h : LQ base h0 h1 h2 h3 h4 h5 B0 d0 N0 B1 d1 O0 B2 d2 N1 B3 d3 O1 B4 d4 B W) (hm : ∀ k, h0 ≤ k → k < h5 → W'.heap[k]? = W.heap[k]?) (hs : W.heap.size ≤ W'.heap.size) : LQ base h0 h1 h2 h3 h4 h5 B0 d0 N0 B1 d1 O0 B2 d2 N1 B3 d3 O1 B4 d4 B W' := by
 have ho := h.o
 exact ⟨Kd.S_move h.p0 (fun k hk => hm k hk.1 (by have := hk.2; omega)), Kd.S_move h.p1 (fun k hk => hm k (by have := hk.1; omega) (by have := hk.2; omega)), Kd.S_move h.p2 (fun k hk => hm k (by have := hk.1; omega) (by have := hk.2; omega)), Kd.S_move h.p3 (fun k hk => hm k (by have := hk.1; omega) (by have := hk.2; omega)), Kd.R_move h.p4 (fun k hk => hm k (by have := hk.1; omega) hk.2), by omega⟩
theorem LQ.step (h : LQ base h0 h1 h2 h3 h4 h5 B0 d0 N0 B1 d1 O0 B2 d2 N1 B3 d3 O1 B4 d4 B W) (hb : Below W.heap.size W W') : LQ base h0 h1 h2 h3 h4 h5 B0 d0 N0 B1 d1 O0 B2 d2 N1 B3 d3 O1 B4 d4 B W' :=
 h.move (fun k _ hk => hb.block k (by have := h.o; omega)) hb.size
theorem LQ.cp (h : LQ base h0 h1 h2 h3 h4 h5 B0 d0 N0 B1 d1 O0 B2 d2 N1 B3 d3 O1 B4 d4 B W) : Cp B0 d0 N0 B1 d1 O0 B2 d2 N1 B3 d3 O1 B4 d4 B W := by
 obtain ⟨_, l0, c0⟩ := Kd.S_reads' h.p0
 obtain ⟨_, l1, c1⟩ := Kd.S_reads' h.p1
 obtain ⟨_, l2, c2⟩ := Kd.S_reads' h.p2
 obtain ⟨_, l3, c3⟩ := Kd.S_reads' h.p3
 obtain ⟨_, l4, c4⟩ := Kd.R_reads' h.p4
 rw [rowsM_length] at l0 l1 l2 l3
 have e4 : (bmarks B).length = B.length + 2 := by simp [bmarks]
 exact ⟨⟨rows_C c0, by omega⟩, ⟨rows_C c1, by omega⟩, ⟨rows_C c2, by omega⟩, ⟨rows_C c3, by omega⟩, ⟨C_pre c4, by omega⟩⟩
end
theorem cut_pastB (A : Option Addr) (n c : Nat) (j : Int) (h0 : 0 ≤ j) (hj : j ≤ (c : Int)) (W : World) : (Instr.slice 58 (.slice A n c) none (some (.int .i64 j)) none).run Tryd.prog W = .ok (.slice A j.toNat c) W := by
 obtain ⟨i, hi, _⟩ := Option.map_eq_some_iff.1 info4
 have hel : Tryd.prog.elem 58 = 4 := by simp [Program.elem, Tryd.underlying58]
 have hu : Tryd.prog.underlying 58 = some (.slice (Tryd.prog.elem 58)) := by rw [hel]; exact Tryd.underlying58
 have ha : (A.map fun x => x.add 0) = A := by cases A <;> simp [Addr.add]
 rw [run_slice_h W 58 A n c hu .i64 j h0 hj, hel]
 simp [sizeOf, typeInfo, hi, sliced, ha, Result.andThen]
theorem two_litB {W : World} : Kd.C kB (W.alloc (.cells #[.bool true, .bool false] 4)) (some ⟨W.heap.size, 0, none⟩) 2 [true, false] :=
 ⟨rfl, by decide, fun _ => ⟨_, rfl, fun j p hj => by
  rcases j with _ | _ | j
  ·simp at hj
   subst hj
   refine ⟨_, rfl, rfl, fun i u hu => ?_⟩
   cases i with
   | zero =>
    simp only [List.getElem?_cons_zero, Option.some.injEq] at hu
    subst hu
    show (W.alloc _).cell? ⟨W.heap.size, 0, none⟩ = _
    go_simp
   | succ i => simp at hu
  ·simp at hj
   subst hj
   refine ⟨_, rfl, rfl, fun i u hu => ?_⟩
   cases i with
   | zero =>
    simp only [List.getElem?_cons_zero, Option.some.injEq] at hu
    subst hu
    show (W.alloc _).cell? ⟨W.heap.size, 1, none⟩ = _
    go_simp
   | succ i => simp at hu
  ·simp at hj⟩⟩
theorem marked_rowB {w : World} {base : Nat} {ok : Nat → Prop} {v : Value} {l : List Bool} (h : Kd.R kB 4 w base ok v (l ++ [true, false])) :
  ∃ A c m, v = .slice A m c ∧ Kd.R kB 4 w base ok (.slice A (bmarks l).length c) (bmarks l) ∧ ∀ W : World, (Instr.slice 58 (.slice A m c) none (some (.int .i64 l.length)) none).run Tryd.prog W = .ok (.slice A l.length c) W := by
 obtain ⟨A, c, e1, hle, _⟩ := Kd.R_reads h
 have hm : (l ++ [true, false]).length = l.length + 2 := by simp
 refine ⟨A, c, _, e1, by have h2 := h; rw [e1] at h2; exact h2, fun W => ?_⟩
 have := cut_pastB A (l ++ [true, false]).length c (l.length : Int) (by omega) (by omega) W
 rwa [Int.toNat_natCast] at this
structure KP (w : World) (CE QE : Array Value) (W : World) : Prop where
 below : Below w.heap.size w W
 box : W.heap[w.heap.size]? = some (.cells CE 60 (0, 0))
 res : W.heap[w.heap.size + 1]? = some (.cells #[.int .i64 0, .slice none 0 0, .slice none 0 0, .int .i64 0, .slice none 0 0, .slice none 0 0, .slice none 0 0, .bool false] 60 (0, 0))
 q : W.heap[w.heap.size + 2]? = some (.cells QE 60 (0, 0))
section
variable {w : World} {CE QE : Array Value} {W W' : World}
theorem KP.step (h : KP w CE QE W) (hb : Below W.heap.size W W') : KP w CE QE W' :=
 ⟨below_step h.below hb, (hb.block _ (blk_lt h.box)).trans h.box, (hb.block _ (blk_lt h.res)).trans h.res, (hb.block _ (blk_lt h.q)).trans h.q⟩
theorem KP.held {s0 : Int} {A0 : Option Addr} {c0 : Nat} {N0 : LL} {A1 : Option Addr} {c1 : Nat} {O0 : LL} {s1 : Int} {A2 : Option Addr} {c2 : Nat} {N1 : LL} {A3 : Option Addr} {c3 : Nat} {O1 : LL} {A4 : Option Addr} {c4 : Nat} {B : List Bool} {els : Bool} (h : KP w #[.int .i64 s0, .slice A0 N0.length c0, .slice A1 O0.length c1, .int .i64 s1, .slice A2 N1.length c2, .slice A3 O1.length c3, .slice A4 B.length c4, .bool els] QE W) : W.cell? ⟨w.heap.size, 0, none⟩ = some (.int .i64 s0) ∧ W.cell? ⟨w.heap.size, 1, none⟩ = some (.slice A0 N0.length c0) ∧ W.cell? ⟨w.heap.size, 2, none⟩ = some (.slice A1 O0.length c1) ∧ W.cell? ⟨w.heap.size, 3, none⟩ = some (.int .i64 s1) ∧ W.cell? ⟨w.heap.size, 4, none⟩ = some (.slice A2 N1.length c2) ∧ W.cell? ⟨w.heap.size, 5, none⟩ = some (.slice A3 O1.length c3) ∧ W.cell? ⟨w.heap.size, 6, none⟩ = some (.slice A4 B.length c4) ∧ W.cell? ⟨w.heap.size, 7, none⟩ = some (.bool els) :=
 ⟨(blk_cell h.box 0).trans rfl, (blk_cell h.box 1).trans rfl, (blk_cell h.box 2).trans rfl, (blk_cell h.box 3).trans rfl, (blk_cell h.box 4).trans rfl, (blk_cell h.box 5).trans rfl, (blk_cell h.box 6).trans rfl, (blk_cell h.box 7).trans rfl⟩
theorem KP.grown (h : KP w CE QE W) {row : Option Nat} (hg : W.grownBy W' row) (hB : Below w.heap.size w W') (hr : ∀ k, row = some k → w.heap.size + 3 ≤ k) : KP w CE QE W' :=
 ⟨hB, blk_grown h.box hg (fun e => by have := hr _ e.symm; omega), blk_grown h.res hg (fun e => by have := hr _ e.symm; omega), blk_grown h.q hg (fun e => by have := hr _ e.symm; omega)⟩
theorem KP.put (h : KP w CE QE W) (j : Nat) (u : Value) : KP w CE (QE.setIfInBounds j u) (W.setCell ⟨w.heap.size + 2, j, none⟩ u) :=
 ⟨h.below.setCell (by show w.heap.size ≤ w.heap.size + 2; omega) _, blk_far h.box (by simp) _, blk_far h.res (by simp) _, blk_put h.q j u rfl⟩
end
set_option maxHeartbeats 4000000 in
set_option maxRecDepth 100000 in
theorem kpair_calls {s0 : Int} {A0 : Option Addr} {c0 : Nat} {N0 : LL} {A1 : Option Addr} {c1 : Nat} {O0 : LL} {s1 : Int} {A2 : Option Addr} {c2 : Nat} {N1 : LL} {A3 : Option Addr} {c3 : Nat} {O1 : LL} {A4 : Option Addr} {c4 : Nat} {B : List Bool} {els : Bool} {w : World} (h : Cp A0 c0 N0 A1 c1 O0 A2 c2 N1 A3 c3 O1 A4 c4 B w) (hb : N0.length ≤ 5864062014634 ∧ O0.length ≤ 5864062014634 ∧ N1.length ≤ 5864062014634 ∧ O1.length ≤ 5864062014634 ∧ B.length ≤ 140737488351232)
  (hr : (∀ l ∈ N0, l.length ≤ 17592186043904) ∧ (∀ l ∈ O0, l.length ≤ 17592186043904) ∧ (∀ l ∈ N1, l.length ≤ 17592186043904) ∧ (∀ l ∈ O1, l.length ≤ 17592186043904)) :
  Calls Tryd.prog 37 #[.agg #[.int .i64 s0, .slice A0 N0.length c0, .slice A1 O0.length c1, .int .i64 s1, .slice A2 N1.length c2, .slice A3 O1.length c3, .slice A4 B.length c4, .bool els]] w fun e w' =>
   ∃ (B0 B1 B2 B3 B4 : Option Addr) (d0 d1 d2 d3 d4 h0 h1 h2 h3 h4 h5 : Nat), e = .returned (.agg #[.int .i64 s0, .slice B0 N0.length d0, .slice B1 O0.length d1, .int .i64 s1, .slice B2 N1.length d2, .slice B3 O1.length d3, .slice B4 B.length d4, .bool els]) ∧ LQ w.heap.size h0 h1 h2 h3 h4 h5 B0 d0 N0 B1 d1 O0 B2 d2 N1 B3 d3 O1 B4 d4 B w' ∧ Below w.heap.size w w' := by
 have hu := Tryd.underlying60
 have hu2 := Tryd.underlying24
 have H := Aside0.mk h
 have HN := Aside0.mk hb
 have HR := Aside0.mk hr
 clear h hb hr
 go_enter Tryd.func37, Tryd.ntmps37
 go_upto_region 2 with fail
 have HB : Aside0 (KP w #[.int .i64 s0, .slice A0 N0.length c0, .slice A1 O0.length c1, .int .i64 s1, .slice A2 N1.length c2, .slice A3 O1.length c3, .slice A4 B.length c4, .bool els] #[.int .i64 0, .slice none 0 0, .slice none 0 0, .int .i64 0, .slice none 0 0, .slice none 0 0, .slice none 0 0, .bool els] (((w.alloc (.cells #[.int .i64 s0, .slice A0 N0.length c0, .slice A1 O0.length c1, .int .i64 s1, .slice A2 N1.length c2, .slice A3 O1.length c3, .slice A4 B.length c4, .bool els] 60)).alloc (.cells #[.int .i64 0, .slice none 0 0, .slice none 0 0, .int .i64 0, .slice none 0 0, .slice none 0 0, .slice none 0 0, .bool false] 60)).alloc (.cells #[.int .i64 0, .slice none 0 0, .slice none 0 0, .int .i64 0, .slice none 0 0, .slice none 0 0, .slice none 0 0, .bool els] 60))) :=
  ⟨⟨below_alloc (below_alloc (below_alloc (Below.refl w.heap.size w) _) _) _, (by rw [heap_alloc_old _ _ (by simp; omega), heap_alloc_old _ _ (by simp)]; exact heap_alloc_new _ _),
   (by rw [heap_alloc_old _ _ (by simp)]; have := heap_alloc_new (w.alloc (.cells #[.int .i64 s0, .slice A0 N0.length c0, .slice A1 O0.length c1, .int .i64 s1, .slice A2 N1.length c2, .slice A3 O1.length c3, .slice A4 B.length c4, .bool els] 60)) (.cells #[.int .i64 0, .slice none 0 0, .slice none 0 0, .int .i64 0, .slice none 0 0, .slice none 0 0, .slice none 0 0, .bool false] 60); simpa using this),
   (by have := heap_alloc_new ((w.alloc (.cells #[.int .i64 s0, .slice A0 N0.length c0, .slice A1 O0.length c1, .int .i64 s1, .slice A2 N1.length c2, .slice A3 O1.length c3, .slice A4 B.length c4, .bool els] 60)).alloc (.cells #[.int .i64 0, .slice none 0 0, .slice none 0 0, .int .i64 0, .slice none 0 0, .slice none 0 0, .slice none 0 0, .bool false] 60)) (.cells #[.int .i64 0, .slice none 0 0, .slice none 0 0, .int .i64 0, .slice none 0 0, .slice none 0 0, .slice none 0 0, .bool els] 60); simpa using this)⟩⟩
 generalize World.alloc _ _ = w0 at HB ⊢
 replace HB := Aside0.mk (HB.out.step (below_drew (Below.refl _ w0)))
 refine start_ (n := 14) (S := fun w' => w'.cell? ⟨w.heap.size, 0, none⟩ = some (.int .i64 s0) ∧ w'.cell? ⟨w.heap.size, 1, none⟩ = some (.slice A0 N0.length c0) ∧ w'.cell? ⟨w.heap.size, 2, none⟩ = some (.slice A1 O0.length c1) ∧ w'.cell? ⟨w.heap.size, 3, none⟩ = some (.int .i64 s1) ∧ w'.cell? ⟨w.heap.size, 4, none⟩ = some (.slice A2 N1.length c2) ∧ w'.cell? ⟨w.heap.size, 5, none⟩ = some (.slice A3 O1.length c3) ∧ w'.cell? ⟨w.heap.size, 6, none⟩ = some (.slice A4 B.length c4) ∧ w'.cell? ⟨w.heap.size, 7, none⟩ = some (.bool els)) (ds := [13]) #[false, false, false, false, false, false, false, false, false, false, false, false, false, false] (by kernel_rfl) rfl rfl HB.out.held (fun hHeld => ?_)
 refine with_tabW kp.tab2 kp.bits2 (fun HT_ HW_ => ?_)
 generalize w0.drew = wn at HB hHeld ⊢
 obtain ⟨g0, hg0⟩ : ∃ g, g = wn.heap.size := ⟨_, rfl⟩
 have E0 : Aside0 (w.heap.size + 3 ≤ g0 ∧ g0 ≤ wn.heap.size) := ⟨by have := blk_lt HB.out.q; omega⟩
 have G := Aside0.mk hg0
 clear hg0
 refine pure_ (i := 0) (N := some 7) (v := ?_) (a' := ?_) #[true, false, false, false, false, false, false, false, false, false, false, false, false, false] rfl rfl (any_of HT_.out (by kernel_rfl)) (fun _ _ _ h => h) (Or.inl ⟨by rfl, ?_⟩) ?_ ?_
 rotate_left
 ·intro w'
  go_simp
  with_reducible rfl
 rotate_left
 ·simp only [Act.put, List.setIfInBounds_toArray, List.set_cons_zero, List.set_cons_succ, i64_w, i32_w]
  rfl
 refine pure_ (i := 1) (N := some 8) (v := ?_) (a' := ?_) #[true, true, false, false, false, false, false, false, false, false, false, false, false, false] rfl rfl (any_of HT_.out (by kernel_rfl)) (fun _ _ _ h => h) (Or.inl ⟨by rfl, ?_⟩) ?_ ?_
 rotate_left
 ·intro w'
  go_simp
  with_reducible rfl
 rotate_left
 ·simp only [Act.put, List.setIfInBounds_toArray, List.set_cons_zero, List.set_cons_succ, i64_w, i32_w]
  rfl
 refine take_ (i := 2) (N := some 9) (v := ?_) (a' := ?_) #[true, true, true, false, false, false, false, false, false, false, false, false, false, false] rfl rfl (take_ofW HT_.out HW_.out (by kernel_rfl)) (fun _ _ _ h => h) (Or.inl ⟨by rfl, ?_⟩) hHeld ?_ ?_
 rotate_left
 ·rintro w' ⟨s0, s1, s2, s3, s4, s5, s6, s7⟩
  go_simp
  with_reducible rfl
 rotate_left
 ·simp only [Act.put, List.setIfInBounds_toArray, List.set_cons_zero, List.set_cons_succ, i64_w, i32_w]
  rfl
 refine pure_ (i := 3) (N := some 10) (v := ?_) (a' := ?_) #[true, true, true, true, false, false, false, false, false, false, false, false, false, false] rfl rfl (any_of HT_.out (by kernel_rfl)) (fun _ _ _ h => h) (Or.inl ⟨by rfl, ?_⟩) ?_ ?_
 rotate_left
 ·intro w'
  go_simp
  with_reducible rfl
 rotate_left
 ·simp only [Act.put, List.setIfInBounds_toArray, List.set_cons_zero, List.set_cons_succ, i64_w, i32_w]
  rfl
 refine pure_ (i := 4) (N := some 11) (v := ?_) (a' := ?_) #[true, true, true, true, true, false, false, false, false, false, false, false, false, false] rfl rfl (any_of HT_.out (by kernel_rfl)) (fun _ _ _ h => h) (Or.inl ⟨by rfl, ?_⟩) ?_ ?_
 rotate_left
 ·intro w'
  go_simp
  with_reducible rfl
 rotate_left
 ·simp only [Act.put, List.setIfInBounds_toArray, List.set_cons_zero, List.set_cons_succ, i64_w, i32_w]
  rfl
 refine take_ (i := 5) (N := some 12) (v := ?_) (a' := ?_) #[true, true, true, true, true, true, false, false, false, false, false, false, false, false] rfl rfl (take_ofW HT_.out HW_.out (by kernel_rfl)) (fun _ _ _ h => h) (Or.inl ⟨by rfl, ?_⟩) hHeld ?_ ?_
 rotate_left
 ·rintro w' ⟨s0, s1, s2, s3, s4, s5, s6, s7⟩
  go_simp
  with_reducible rfl
 rotate_left
 ·simp only [Act.put, List.setIfInBounds_toArray, List.set_cons_zero, List.set_cons_succ, i64_w, i32_w]
  rfl
 refine pure_ (i := 7) (N := some 14) (v := ?_) (a' := ?_) #[true, true, true, true, true, true, false, true, false, false, false, false, false, false] rfl rfl (any_of HT_.out (by kernel_rfl)) (fun _ _ _ h => h) (Or.inl ⟨by rfl, ?_⟩) ?_ ?_
 rotate_left
 ·intro w'
  go_simp
  with_reducible rfl
 rotate_left
 ·simp only [Act.put, List.setIfInBounds_toArray, List.set_cons_zero, List.set_cons_succ, i64_w, i32_w]
  rfl
 refine pure_ (i := 8) (N := some 15) (v := ?_) (a' := ?_) #[true, true, true, true, true, true, false, true, true, false, false, false, false, false] rfl rfl (any_of HT_.out (by kernel_rfl)) (fun _ _ _ h => h) (Or.inl ⟨by rfl, ?_⟩) ?_ ?_
 rotate_left
 ·intro w'
  go_simp
  with_reducible rfl
 rotate_left
 ·simp only [Act.put, List.setIfInBounds_toArray, List.set_cons_zero, List.set_cons_succ, i64_w, i32_w]
  rfl
 refine take_ (i := 9) (N := some 16) (v := ?_) (a' := ?_) #[true, true, true, true, true, true, false, true, true, true, false, false, false, false] rfl rfl (take_ofW HT_.out HW_.out (by kernel_rfl)) (fun _ _ _ h => h) (Or.inl ⟨by rfl, ?_⟩) hHeld ?_ ?_
 rotate_left
 ·rintro w' ⟨s0, s1, s2, s3, s4, s5, s6, s7⟩
  go_simp
  with_reducible rfl
 rotate_left
 ·simp only [Act.put, List.setIfInBounds_toArray, List.set_cons_zero, List.set_cons_succ, i64_w, i32_w]
  rfl
 refine one_ (i := 6) (N := some 13) #[true, true, true, true, true, true, true, true, true, true, false, false, false, false] rfl rfl (one_of HT_.out (by kernel_rfl)) (by decide) (fun K hK => ?_)
 refine goes_ Tryd.func70 (by kernel_rfl) rfl #[.slice A0 N0.length c0] (by rfl) rfl rfl (by (try simp only [List.map_toArray, List.map_cons, List.map_nil]); first | done | rfl) ?_
 refine (rows_calls A0 c0 N0 _ (Kd.C_below H.out.n0.1 HB.out.below) HN.out.1 HR.out.1).mono ?_
 rintro e wm ⟨Z0, e0, rfl, ho, hb⟩
 refine ⟨_, rfl, ?_⟩
 obtain ⟨g1, hg1⟩ : ∃ g, g = wm.heap.size := ⟨_, rfl⟩
 have K0 := Aside0.mk (Kd.S_mono (Kd.S_lower (Kd.S_bound ho) HB.out.below.size) (ok' := rng g0 g1) (fun k hk => ⟨by rw [G.out]; exact hk.2.1, by rw [hg1]; exact hk.2.2.1⟩))
 
 have E1 : Aside0 (w.heap.size + 3 ≤ g0 ∧ g0 ≤ g1 ∧ g1 ≤ wm.heap.size) := ⟨by have := E0.out; have := hb.size; have := G.out; omega⟩
 clear G ho E0
 have G := Aside0.mk hg1
 clear hg1
 replace HB := Aside0.mk (HB.out.step hb)
 obtain ⟨wn, rfl⟩ : ∃ wn, wn = wm := ⟨_, rfl⟩
 refine hK.out _ _ HB.out.held (fun hHeld => ?_)
 clear hK K hb
 refine norm_ (a' := ?_) ?_ ?_
 rotate_left
 ·show Act.put _ (some 13) _ = _
  simp only [Act.put, List.setIfInBounds_toArray, List.set_cons_zero, List.set_cons_succ, i64_w, i32_w]
  rfl
 refine one_ (i := 10) (N := some 17) #[true, true, true, true, true, true, true, true, true, true, true, false, false, false] rfl rfl (one_of HT_.out (by kernel_rfl)) (by decide) (fun K hK => ?_)
 refine goes_ Tryd.func70 (by kernel_rfl) rfl #[.slice A1 O0.length c1] (by rfl) rfl rfl (by (try simp only [List.map_toArray, List.map_cons, List.map_nil]); first | done | rfl) ?_
 refine (rows_calls A1 c1 O0 _ (Kd.C_below H.out.o0.1 HB.out.below) HN.out.2.1 HR.out.2.1).mono ?_
 rintro e wm ⟨Z1, e1, rfl, ho, hb⟩
 refine ⟨_, rfl, ?_⟩
 obtain ⟨g2, hg2⟩ : ∃ g, g = wm.heap.size := ⟨_, rfl⟩
 have K1 := Aside0.mk (Kd.S_mono (Kd.S_lower (Kd.S_bound ho) HB.out.below.size) (ok' := rng g1 g2) (fun k hk => ⟨by rw [G.out]; exact hk.2.1, by rw [hg2]; exact hk.2.2.1⟩))
 replace K0 := Aside0.mk (Kd.S_below K0.out hb)
 have E2 : Aside0 (w.heap.size + 3 ≤ g0 ∧ g0 ≤ g1 ∧ g1 ≤ g2 ∧ g2 ≤ wm.heap.size) := ⟨by have := E1.out; have := hb.size; have := G.out; omega⟩
 clear G ho E1
 have G := Aside0.mk hg2
 clear hg2
 replace HB := Aside0.mk (HB.out.step hb)
 obtain ⟨wn, rfl⟩ : ∃ wn, wn = wm := ⟨_, rfl⟩
 refine hK.out _ _ HB.out.held (fun hHeld => ?_)
 clear hK K hb
 refine norm_ (a' := ?_) ?_ ?_
 rotate_left
 ·show Act.put _ (some 17) _ = _
  simp only [Act.put, List.setIfInBounds_toArray, List.set_cons_zero, List.set_cons_succ, i64_w, i32_w]
  rfl
 refine pure_ (i := 11) (N := some 18) (v := ?_) (a' := ?_) #[true, true, true, true, true, true, true, true, true, true, true, true, false, false] rfl rfl (any_of HT_.out (by kernel_rfl)) (fun _ _ _ h => h) (Or.inl ⟨by rfl, ?_⟩) ?_ ?_
 rotate_left
 ·intro w'
  go_simp
  with_reducible rfl
 rotate_left
 ·simp only [Act.put, List.setIfInBounds_toArray, List.set_cons_zero, List.set_cons_succ, i64_w, i32_w]
  rfl
 refine pure_ (i := 12) (N := some 19) (v := ?_) (a' := ?_) #[true, true, true, true, true, true, true, true, true, true, true, true, true, false] rfl rfl (any_of HT_.out (by kernel_rfl)) (fun _ _ _ h => h) (Or.inl ⟨by rfl, ?_⟩) ?_ ?_
 rotate_left
 ·intro w'
  go_simp
  with_reducible rfl
 rotate_left
 ·simp only [Act.put, List.setIfInBounds_toArray, List.set_cons_zero, List.set_cons_succ, i64_w, i32_w]
  rfl
 refine last_ (i := 13) (N := none) #[true, true, true, true, true, true, true, true, true, true, true, true, true, true] rfl rfl (one_of HT_.out (by kernel_rfl)) (by decide) (fun K hK => ?_)
 have z0 : wn.cell? ⟨w.heap.size + 2, 0, none⟩ = some (.int .i64 0) := (blk_cell HB.out.q 0).trans rfl
 have y0 := blk_frozen HB.out.q 0
 have z1 : wn.cell? ⟨w.heap.size + 2, 1, none⟩ = some (.slice none 0 0) := (blk_cell HB.out.q 1).trans rfl
 have y1 := blk_frozen HB.out.q 1
 have z2 : wn.cell? ⟨w.heap.size + 2, 2, none⟩ = some (.slice none 0 0) := (blk_cell HB.out.q 2).trans rfl
 have y2 := blk_frozen HB.out.q 2
 refine skip_ (w1 := ?_) (by rfl) rfl ?_ ?_
 rotate_left
 ·go_simp
  rfl
 refine hK.out _ _ ?_
 clear hK K z0 z1 z2 y0 y1 y2
 refine done_ (done_of HT_.out (by kernel_rfl)) ?_
 go_upto_region 3 with fail
 replace HB := Aside0.mk (show KP w #[.int .i64 s0, .slice A0 N0.length c0, .slice A1 O0.length c1, .int .i64 s1, .slice A2 N1.length c2, .slice A3 O1.length c3, .slice A4 B.length c4, .bool els] #[.int .i64 s0, .slice Z0 N0.length e0, .slice Z1 O0.length e1, .int .i64 0, .slice none 0 0, .slice none 0 0, .slice none 0 0, .bool els] _ from ((HB.out.put 0 (.int .i64 s0)).put 1 (.slice Z0 N0.length e0)).put 2 (.slice Z1 O0.length e1))
 have mv : ∀ k, k ≠ w.heap.size + 2 → (((wn.setCell ⟨w.heap.size + 2, 0, none⟩ (.int .i64 s0)).setCell ⟨w.heap.size + 2, 1, none⟩ (.slice Z0 N0.length e0)).setCell ⟨w.heap.size + 2, 2, none⟩ (.slice Z1 O0.length e1)).heap[k]? = wn.heap[k]? := fun k hne => by
  rw [Below.heap_setCell _ ⟨w.heap.size + 2, 2, none⟩ _ k hne, Below.heap_setCell _ ⟨w.heap.size + 2, 1, none⟩ _ k hne, Below.heap_setCell _ ⟨w.heap.size + 2, 0, none⟩ _ k hne]
 replace K0 := Aside0.mk (Kd.S_move K0.out (fun k hk => mv k (by have := hk.1; have := E2.out; omega)))
 replace K1 := Aside0.mk (Kd.S_move K1.out (fun k hk => mv k (by have := hk.1; have := E2.out; omega)))
 clear mv
 replace E2 := Aside0.mk (show w.heap.size + 3 ≤ g0 ∧ g0 ≤ g1 ∧ g1 ≤ g2 ∧ g2 ≤ (((wn.setCell ⟨w.heap.size + 2, 0, none⟩ (.int .i64 s0)).setCell ⟨w.heap.size + 2, 1, none⟩ (.slice Z0 N0.length e0)).setCell ⟨w.heap.size + 2, 2, none⟩ (.slice Z1 O0.length e1)).heap.size from by simpa [World.setCell] using E2.out)
 clear G
 generalize World.setCell _ _ _ = w0 at HB K0 K1 E2 ⊢
 replace HB := Aside0.mk (HB.out.step (below_drew (Below.refl _ w0)))
 replace K0 := Aside0.mk (Kd.S_drew K0.out)
 replace K1 := Aside0.mk (Kd.S_drew K1.out)
 replace E2 := Aside0.mk (show w.heap.size + 3 ≤ g0 ∧ g0 ≤ g1 ∧ g1 ≤ g2 ∧ g2 ≤ w0.drew.heap.size from E2.out)
 refine start_ (n := 14) (S := fun w' => w'.cell? ⟨w.heap.size, 0, none⟩ = some (.int .i64 s0) ∧ w'.cell? ⟨w.heap.size, 1, none⟩ = some (.slice A0 N0.length c0) ∧ w'.cell? ⟨w.heap.size, 2, none⟩ = some (.slice A1 O0.length c1) ∧ w'.cell? ⟨w.heap.size, 3, none⟩ = some (.int .i64 s1) ∧ w'.cell? ⟨w.heap.size, 4, none⟩ = some (.slice A2 N1.length c2) ∧ w'.cell? ⟨w.heap.size, 5, none⟩ = some (.slice A3 O1.length c3) ∧ w'.cell? ⟨w.heap.size, 6, none⟩ = some (.slice A4 B.length c4) ∧ w'.cell? ⟨w.heap.size, 7, none⟩ = some (.bool els)) (ds := [13]) #[false, false, false, false, false, false, false, false, false, false, false, false, false, false] (by kernel_rfl) rfl rfl HB.out.held (fun hHeld => ?_)
 refine with_tabW kp.tab3 kp.bits3 (fun HT_ HW_ => ?_)
 generalize w0.drew = wn at HB K0 K1 E2 hHeld ⊢
 obtain ⟨g2', hg2'⟩ : ∃ g, g = wn.heap.size := ⟨_, rfl⟩
 replace K1 := Aside0.mk (Kd.S_mono K1.out (ok' := rng g1 g2') (fun k hk => ⟨hk.1, by have := hk.2; have := E2.out; omega⟩))
 replace E2 : Aside0 (w.heap.size + 3 ≤ g0 ∧ g0 ≤ g1 ∧ g1 ≤ g2' ∧ g2' ≤ wn.heap.size) := ⟨by have := E2.out; omega⟩
 clear g2
 obtain ⟨g2, rfl⟩ : ∃ g, g = g2' := ⟨_, rfl⟩
 have G := Aside0.mk hg2'
 clear hg2'
 refine pure_ (i := 0) (N := some 20) (v := ?_) (a' := ?_) #[true, false, false, false, false, false, false, false, false, false, false, false, false, false] rfl rfl (any_of HT_.out (by kernel_rfl)) (fun _ _ _ h => h) (Or.inl ⟨by rfl, ?_⟩) ?_ ?_
 rotate_left
 ·intro w'
  go_simp
  with_reducible rfl
 rotate_left
 ·simp only [Act.put, List.setIfInBounds_toArray, List.set_cons_zero, List.set_cons_succ, i64_w, i32_w]
  rfl
 refine pure_ (i := 1) (N := some 21) (v := ?_) (a' := ?_) #[true, true, false, false, false, false, false, false, false, false, false, false, false, false] rfl rfl (any_of HT_.out (by kernel_rfl)) (fun _ _ _ h => h) (Or.inl ⟨by rfl, ?_⟩) ?_ ?_
 rotate_left
 ·intro w'
  go_simp
  with_reducible rfl
 rotate_left
 ·simp only [Act.put, List.setIfInBounds_toArray, List.set_cons_zero, List.set_cons_succ, i64_w, i32_w]
  rfl
 refine take_ (i := 2) (N := some 22) (v := ?_) (a' := ?_) #[true, true, true, false, false, false, false, false, false, false, false, false, false, false] rfl rfl (take_ofW HT_.out HW_.out (by kernel_rfl)) (fun _ _ _ h => h) (Or.inl ⟨by rfl, ?_⟩) hHeld ?_ ?_
 rotate_left
 ·rintro w' ⟨s0, s1, s2, s3, s4, s5, s6, s7⟩
  go_simp
  with_reducible rfl
 rotate_left
 ·simp only [Act.put, List.setIfInBounds_toArray, List.set_cons_zero, List.set_cons_succ, i64_w, i32_w]
  rfl
 refine pure_ (i := 3) (N := some 23) (v := ?_) (a' := ?_) #[true, true, true, true, false, false, false, false, false, false, false, false, false, false] rfl rfl (any_of HT_.out (by kernel_rfl)) (fun _ _ _ h => h) (Or.inl ⟨by rfl, ?_⟩) ?_ ?_
 rotate_left
 ·intro w'
  go_simp
  with_reducible rfl
 rotate_left
 ·simp only [Act.put, List.setIfInBounds_toArray, List.set_cons_zero, List.set_cons_succ, i64_w, i32_w]
  rfl
 refine pure_ (i := 4) (N := some 24) (v := ?_) (a' := ?_) #[true, true, true, true, true, false, false, false, false, false, false, false, false, false] rfl rfl (any_of HT_.out (by kernel_rfl)) (fun _ _ _ h => h) (Or.inl ⟨by rfl, ?_⟩) ?_ ?_
 rotate_left
 ·intro w'
  go_simp
  with_reducible rfl
 rotate_left
 ·simp only [Act.put, List.setIfInBounds_toArray, List.set_cons_zero, List.set_cons_succ, i64_w, i32_w]
  rfl
 refine take_ (i := 5) (N := some 25) (v := ?_) (a' := ?_) #[true, true, true, true, true, true, false, false, false, false, false, false, false, false] rfl rfl (take_ofW HT_.out HW_.out (by kernel_rfl)) (fun _ _ _ h => h) (Or.inl ⟨by rfl, ?_⟩) hHeld ?_ ?_
 rotate_left
 ·rintro w' ⟨s0, s1, s2, s3, s4, s5, s6, s7⟩
  go_simp
  with_reducible rfl
 rotate_left
 ·simp only [Act.put, List.setIfInBounds_toArray, List.set_cons_zero, List.set_cons_succ, i64_w, i32_w]
  rfl
 refine pure_ (i := 7) (N := some 27) (v := ?_) (a' := ?_) #[true, true, true, true, true, true, false, true, false, false, false, false, false, false] rfl rfl (any_of HT_.out (by kernel_rfl)) (fun _ _ _ h => h) (Or.inl ⟨by rfl, ?_⟩) ?_ ?_
 rotate_left
 ·intro w'
  go_simp
  with_reducible rfl
 rotate_left
 ·simp only [Act.put, List.setIfInBounds_toArray, List.set_cons_zero, List.set_cons_succ, i64_w, i32_w]
  rfl
 refine pure_ (i := 8) (N := some 28) (v := ?_) (a' := ?_) #[true, true, true, true, true, true, false, true, true, false, false, false, false, false] rfl rfl (any_of HT_.out (by kernel_rfl)) (fun _ _ _ h => h) (Or.inl ⟨by rfl, ?_⟩) ?_ ?_
 rotate_left
 ·intro w'
  go_simp
  with_reducible rfl
 rotate_left
 ·simp only [Act.put, List.setIfInBounds_toArray, List.set_cons_zero, List.set_cons_succ, i64_w, i32_w]
  rfl
 refine take_ (i := 9) (N := some 29) (v := ?_) (a' := ?_) #[true, true, true, true, true, true, false, true, true, true, false, false, false, false] rfl rfl (take_ofW HT_.out HW_.out (by kernel_rfl)) (fun _ _ _ h => h) (Or.inl ⟨by rfl, ?_⟩) hHeld ?_ ?_
 rotate_left
 ·rintro w' ⟨s0, s1, s2, s3, s4, s5, s6, s7⟩
  go_simp
  with_reducible rfl
 rotate_left
 ·simp only [Act.put, List.setIfInBounds_toArray, List.set_cons_zero, List.set_cons_succ, i64_w, i32_w]
  rfl
 refine one_ (i := 6) (N := some 26) #[true, true, true, true, true, true, true, true, true, true, false, false, false, false] rfl rfl (one_of HT_.out (by kernel_rfl)) (by decide) (fun K hK => ?_)
 refine goes_ Tryd.func70 (by kernel_rfl) rfl #[.slice A2 N1.length c2] (by rfl) rfl rfl (by (try simp only [List.map_toArray, List.map_cons, List.map_nil]); first | done | rfl) ?_
 refine (rows_calls A2 c2 N1 _ (Kd.C_below H.out.n1.1 HB.out.below) HN.out.2.2.1 HR.out.2.2.1).mono ?_
 rintro e wm ⟨Z2, e2, rfl, ho, hb⟩
 refine ⟨_, rfl, ?_⟩
 obtain ⟨g3, hg3⟩ : ∃ g, g = wm.heap.size := ⟨_, rfl⟩
 have K2 := Aside0.mk (Kd.S_mono (Kd.S_lower (Kd.S_bound ho) HB.out.below.size) (ok' := rng g2 g3) (fun k hk => ⟨by rw [G.out]; exact hk.2.1, by rw [hg3]; exact hk.2.2.1⟩))
 replace K0 := Aside0.mk (Kd.S_below K0.out hb)
 replace K1 := Aside0.mk (Kd.S_below K1.out hb)
 have E3 : Aside0 (w.heap.size + 3 ≤ g0 ∧ g0 ≤ g1 ∧ g1 ≤ g2 ∧ g2 ≤ g3 ∧ g3 ≤ wm.heap.size) := ⟨by have := E2.out; have := hb.size; have := G.out; omega⟩
 clear G ho E2
 have G := Aside0.mk hg3
 clear hg3
 replace HB := Aside0.mk (HB.out.step hb)
 obtain ⟨wn, rfl⟩ : ∃ wn, wn = wm := ⟨_, rfl⟩
 refine hK.out _ _ HB.out.held (fun hHeld => ?_)
 clear hK K hb
 refine norm_ (a' := ?_) ?_ ?_
 rotate_left
 ·show Act.put _ (some 26) _ = _
  simp only [Act.put, List.setIfInBounds_toArray, List.set_cons_zero, List.set_cons_succ, i64_w, i32_w]
  rfl
 refine one_ (i := 10) (N := some 30) #[true, true, true, true, true, true, true, true, true, true, true, false, false, false] rfl rfl (one_of HT_.out (by kernel_rfl)) (by decide) (fun K hK => ?_)
 refine goes_ Tryd.func70 (by kernel_rfl) rfl #[.slice A3 O1.length c3] (by rfl) rfl rfl (by (try simp only [List.map_toArray, List.map_cons, List.map_nil]); first | done | rfl) ?_
 refine (rows_calls A3 c3 O1 _ (Kd.C_below H.out.o1.1 HB.out.below) HN.out.2.2.2.1 HR.out.2.2.2).mono ?_
 rintro e wm ⟨Z3, e3, rfl, ho, hb⟩
 refine ⟨_, rfl, ?_⟩
 obtain ⟨g4, hg4⟩ : ∃ g, g = wm.heap.size := ⟨_, rfl⟩
 have K3 := Aside0.mk (Kd.S_mono (Kd.S_lower (Kd.S_bound ho) HB.out.below.size) (ok' := rng g3 g4) (fun k hk => ⟨by rw [G.out]; exact hk.2.1, by rw [hg4]; exact hk.2.2.1⟩))
 replace K0 := Aside0.mk (Kd.S_below K0.out hb)
 replace K1 := Aside0.mk (Kd.S_below K1.out hb)
 replace K2 := Aside0.mk (Kd.S_below K2.out hb)
 have E4 : Aside0 (w.heap.size + 3 ≤ g0 ∧ g0 ≤ g1 ∧ g1 ≤ g2 ∧ g2 ≤ g3 ∧ g3 ≤ g4 ∧ g4 ≤ wm.heap.size) := ⟨by have := E3.out; have := hb.size; have := G.out; omega⟩
 clear G ho E3
 have G := Aside0.mk hg4
 clear hg4
 replace HB := Aside0.mk (HB.out.step hb)
 obtain ⟨wn, rfl⟩ : ∃ wn, wn = wm := ⟨_, rfl⟩
 refine hK.out _ _ HB.out.held (fun hHeld => ?_)
 clear hK K hb
 refine norm_ (a' := ?_) ?_ ?_
 rotate_left
 ·show Act.put _ (some 30) _ = _
  simp only [Act.put, List.setIfInBounds_toArray, List.set_cons_zero, List.set_cons_succ, i64_w, i32_w]
  rfl
 refine pure_ (i := 11) (N := some 31) (v := ?_) (a' := ?_) #[true, true, true, true, true, true, true, true, true, true, true, true, false, false] rfl rfl (any_of HT_.out (by kernel_rfl)) (fun _ _ _ h => h) (Or.inl ⟨by rfl, ?_⟩) ?_ ?_
 rotate_left
 ·intro w'
  go_simp
  with_reducible rfl
 rotate_left
 ·simp only [Act.put, List.setIfInBounds_toArray, List.set_cons_zero, List.set_cons_succ, i64_w, i32_w]
  rfl
 refine pure_ (i := 12) (N := some 32) (v := ?_) (a' := ?_) #[true, true, true, true, true, true, true, true, true, true, true, true, true, false] rfl rfl (any_of HT_.out (by kernel_rfl)) (fun _ _ _ h => h) (Or.inl ⟨by rfl, ?_⟩) ?_ ?_
 rotate_left
 ·intro w'
  go_simp
  with_reducible rfl
 rotate_left
 ·simp only [Act.put, List.setIfInBounds_toArray, List.set_cons_zero, List.set_cons_succ, i64_w, i32_w]
  rfl
 refine last_ (i := 13) (N := none) #[true, true, true, true, true, true, true, true, true, true, true, true, true, true] rfl rfl (one_of HT_.out (by kernel_rfl)) (by decide) (fun K hK => ?_)
 have z0 : wn.cell? ⟨w.heap.size + 2, 3, none⟩ = some (.int .i64 0) := (blk_cell HB.out.q 3).trans rfl
 have y0 := blk_frozen HB.out.q 3
 have z1 : wn.cell? ⟨w.heap.size + 2, 4, none⟩ = some (.slice none 0 0) := (blk_cell HB.out.q 4).trans rfl
 have y1 := blk_frozen HB.out.q 4
 have z2 : wn.cell? ⟨w.heap.size + 2, 5, none⟩ = some (.slice none 0 0) := (blk_cell HB.out.q 5).trans rfl
 have y2 := blk_frozen HB.out.q 5
 refine skip_ (w1 := ?_) (by rfl) rfl ?_ ?_
 rotate_left
 ·go_simp
  rfl
 refine hK.out _ _ ?_
 clear hK K z0 z1 z2 y0 y1 y2
 refine done_ (done_of HT_.out (by kernel_rfl)) ?_
 go_upto_region 4 with fail
 replace HB := Aside0.mk (show KP w #[.int .i64 s0, .slice A0 N0.length c0, .slice A1 O0.length c1, .int .i64 s1, .slice A2 N1.length c2, .slice A3 O1.length c3, .slice A4 B.length c4, .bool els] #[.int .i64 s0, .slice Z0 N0.length e0, .slice Z1 O0.length e1, .int .i64 s1, .slice Z2 N1.length e2, .slice Z3 O1.length e3, .slice none 0 0, .bool els] _ from ((HB.out.put 3 (.int .i64 s1)).put 4 (.slice Z2 N1.length e2)).put 5 (.slice Z3 O1.length e3))
 have mv : ∀ k, k ≠ w.heap.size + 2 → (((wn.setCell ⟨w.heap.size + 2, 3, none⟩ (.int .i64 s1)).setCell ⟨w.heap.size + 2, 4, none⟩ (.slice Z2 N1.length e2)).setCell ⟨w.heap.size + 2, 5, none⟩ (.slice Z3 O1.length e3)).heap[k]? = wn.heap[k]? := fun k hne => by
  rw [Below.heap_setCell _ ⟨w.heap.size + 2, 5, none⟩ _ k hne, Below.heap_setCell _ ⟨w.heap.size + 2, 4, none⟩ _ k hne, Below.heap_setCell _ ⟨w.heap.size + 2, 3, none⟩ _ k hne]
 replace K0 := Aside0.mk (Kd.S_move K0.out (fun k hk => mv k (by have := hk.1; have := E4.out; omega)))
 replace K1 := Aside0.mk (Kd.S_move K1.out (fun k hk => mv k (by have := hk.1; have := E4.out; omega)))
 replace K2 := Aside0.mk (Kd.S_move K2.out (fun k hk => mv k (by have := hk.1; have := E4.out; omega)))
 replace K3 := Aside0.mk (Kd.S_move K3.out (fun k hk => mv k (by have := hk.1; have := E4.out; omega)))
 clear mv G
 replace E4 := Aside0.mk (show w.heap.size + 3 ≤ g0 ∧ g0 ≤ g1 ∧ g1 ≤ g2 ∧ g2 ≤ g3 ∧ g3 ≤ g4 ∧ g4 ≤ (((wn.setCell ⟨w.heap.size + 2, 3, none⟩ (.int .i64 s1)).setCell ⟨w.heap.size + 2, 4, none⟩ (.slice Z2 N1.length e2)).setCell ⟨w.heap.size + 2, 5, none⟩ (.slice Z3 O1.length e3)).heap.size from by simpa [World.setCell] using E4.out)
 generalize World.setCell _ _ _ = w5 at HB K0 K1 K2 K3 E4 ⊢
 obtain ⟨bigB⟩ : Aside0 (B.length ≤ 140737488351232) := ⟨HN.out.2.2.2.2⟩
 have HBB := Aside0.mk bigB
 clear bigB
 have f6 : w5.cell? ⟨w.heap.size, 6, none⟩ = some (.slice A4 B.length c4) := (blk_cell HB.out.box 6).trans rfl
 have x6 : w5.cell? ⟨w.heap.size + 2, 6, none⟩ = some (.slice none 0 0) := (blk_cell HB.out.q 6).trans rfl
 go_upto_region 5 with ((with_reducible refine gate_builtin (b := .append) (xs := #[.tmp 34, .tmp 36]) rfl ?_); at_builtin; refine Kd.R_append_rows kB (w0 := w) w.heap.size rfl (.tmp 34) (.tmp 36) 58 4 (.bool false) 1 rfl Tryd.underlying58 info4 rfl (by decide) (by omega) (.slice none 0 0) ([] : List Bool) B _ _ _ (fun k => g4 ≤ k) (fun _ => False) rfl rfl ?aO ?aR (fun _ _ h => h) (fun _ h => h.elim) ?aF ?aB ?aS ?aL ?_; (case aR => exact Kd.C_below H.out.b.1 HB.out.below); (case aB => exact HB.out.below); (case aF => exact (fun k hk => by have := E4.out; omega)); (case aO => exact Kd.R_nil _ _ _ _ _); (case aS => exact HB.out.below.size); (case aL => have := HBB.out; simp; omega); intro v1 w6 hoz hbz hgz hatz; rw [List.nil_append] at hoz; obtain ⟨Z4, e4, rfl⟩ := Kd.R_slice hoz; have HV := Aside0.mk hoz; replace HB := Aside0.mk (HB.out.grown hgz hbz (fun k hk => by simp [Value.ownBlock] at hk)); replace K0 := Aside0.mk (Kd.S_grown K0.out hgz (fun k _ => by simp [Value.ownBlock])); replace K1 := Aside0.mk (Kd.S_grown K1.out hgz (fun k _ => by simp [Value.ownBlock])); replace K2 := Aside0.mk (Kd.S_grown K2.out hgz (fun k _ => by simp [Value.ownBlock])); replace K3 := Aside0.mk (Kd.S_grown K3.out hgz (fun k _ => by simp [Value.ownBlock])); replace E4 := Aside0.mk (show w.heap.size + 3 ≤ g0 ∧ g0 ≤ g1 ∧ g1 ≤ g2 ∧ g2 ≤ g3 ∧ g3 ≤ g4 ∧ g4 ≤ w6.heap.size from by have := E4.out; have := hgz.size; omega); clear f6 x6 hoz hbz hgz hatz; have x6 : w6.cell? ⟨w.heap.size + 2, 6, none⟩ = some (.slice none 0 0) := (blk_cell HB.out.q 6).trans rfl; have y6 := blk_frozen HB.out.q 6)
 replace HB := Aside0.mk (show KP w #[.int .i64 s0, .slice A0 N0.length c0, .slice A1 O0.length c1, .int .i64 s1, .slice A2 N1.length c2, .slice A3 O1.length c3, .slice A4 B.length c4, .bool els] #[.int .i64 s0, .slice Z0 N0.length e0, .slice Z1 O0.length e1, .int .i64 s1, .slice Z2 N1.length e2, .slice Z3 O1.length e3, .slice Z4 B.length e4, .bool els] _ from HB.out.put 6 (.slice Z4 B.length e4))
 have mv : ∀ k, k ≠ w.heap.size + 2 → (w6.setCell ⟨w.heap.size + 2, 6, none⟩ (.slice Z4 B.length e4)).heap[k]? = w6.heap[k]? := fun k hne => Below.heap_setCell _ ⟨w.heap.size + 2, 6, none⟩ _ k hne
 replace K0 := Aside0.mk (Kd.S_move K0.out (fun k hk => mv k (by have := hk.1; have := E4.out; omega)))
 replace K1 := Aside0.mk (Kd.S_move K1.out (fun k hk => mv k (by have := hk.1; have := E4.out; omega)))
 replace K2 := Aside0.mk (Kd.S_move K2.out (fun k hk => mv k (by have := hk.1; have := E4.out; omega)))
 replace K3 := Aside0.mk (Kd.S_move K3.out (fun k hk => mv k (by have := hk.1; have := E4.out; omega)))
 replace HV := Aside0.mk (Kd.R_move HV.out (fun k hk => mv k (by have := E4.out; omega)))
 replace E4 := Aside0.mk (show w.heap.size + 3 ≤ g0 ∧ g0 ≤ g1 ∧ g1 ≤ g2 ∧ g2 ≤ g3 ∧ g3 ≤ g4 ∧ g4 ≤ (w6.setCell ⟨w.heap.size + 2, 6, none⟩ (.slice Z4 B.length e4)).heap.size from by simpa [World.setCell] using E4.out)
 clear mv x6 y6
 generalize World.setCell _ _ _ = w7 at HB K0 K1 K2 K3 HV E4 ⊢
 have x6 : w7.cell? ⟨w.heap.size + 2, 6, none⟩ = some (.slice Z4 B.length e4) := (blk_cell HB.out.q 6).trans rfl
 go_upto_region 6 with ((with_reducible refine gate_builtin (b := .append) (xs := #[.tmp 40, .tmp 41]) rfl ?_); at_builtin; refine Kd.R_append_rows kB (w0 := w) w.heap.size rfl (.tmp 40) (.tmp 41) 58 4 (.bool false) 1 rfl Tryd.underlying58 info4 rfl (by decide) (by omega) (.slice Z4 B.length e4) B [true, false] _ _ _ (fun k => g4 ≤ k) (fun _ => False) rfl rfl ?aO ?aR (fun _ _ h => h) (fun _ h => h.elim) ?aF ?aB ?aS ?aL ?_; (case aR => exact two_litB); (case aB => exact below_alloc HB.out.below _); (case aF => exact (fun k hk => by have := E4.out; simp at hk; omega)); (case aO => exact Kd.R_alloc HV.out _); (case aS => exact (below_alloc HB.out.below _).size); (case aL => have := HBB.out; omega); intro v1 w8 hoz hbz hgz hatz; replace HB := Aside0.mk ((HB.out.step (below_alloc (Below.refl _ w7) _)).grown hgz hbz (fun k hk => by have := HV.out.1 k hk; have := E4.out; omega)); replace K0 := Aside0.mk (Kd.S_grown (Kd.S_alloc K0.out _) hgz (fun k hk e => by have := HV.out.1 k e.symm; have := hk.2; have := E4.out; omega)); replace K1 := Aside0.mk (Kd.S_grown (Kd.S_alloc K1.out _) hgz (fun k hk e => by have := HV.out.1 k e.symm; have := hk.2; have := E4.out; omega)); replace K2 := Aside0.mk (Kd.S_grown (Kd.S_alloc K2.out _) hgz (fun k hk e => by have := HV.out.1 k e.symm; have := hk.2; have := E4.out; omega)); replace K3 := Aside0.mk (Kd.S_grown (Kd.S_alloc K3.out _) hgz (fun k hk e => by have := HV.out.1 k e.symm; have := hk.2; have := E4.out; omega)); replace E4 := Aside0.mk (show w.heap.size + 3 ≤ g0 ∧ g0 ≤ g1 ∧ g1 ≤ g2 ∧ g2 ≤ g3 ∧ g3 ≤ g4 ∧ g4 ≤ w8.heap.size from by have := E4.out; have := hgz.size; simp at this; omega); obtain ⟨Z5, e5, m5, rfl, hoy, hcut⟩ := marked_rowB hoz; clear HV; have HV := Aside0.mk hoy; have HC := Aside0.mk hcut; clear x6 hoz hbz hgz hatz hoy hcut; have x6 : w8.cell? ⟨w.heap.size + 2, 6, none⟩ = some (.slice Z4 B.length e4) := (blk_cell HB.out.q 6).trans rfl; have y6 := blk_frozen HB.out.q 6)
 replace HB := Aside0.mk (show KP w #[.int .i64 s0, .slice A0 N0.length c0, .slice A1 O0.length c1, .int .i64 s1, .slice A2 N1.length c2, .slice A3 O1.length c3, .slice A4 B.length c4, .bool els] #[.int .i64 s0, .slice Z0 N0.length e0, .slice Z1 O0.length e1, .int .i64 s1, .slice Z2 N1.length e2, .slice Z3 O1.length e3, .slice Z5 m5 e5, .bool els] _ from HB.out.put 6 (.slice Z5 m5 e5))
 have mv : ∀ k, k ≠ w.heap.size + 2 → (w8.setCell ⟨w.heap.size + 2, 6, none⟩ (.slice Z5 m5 e5)).heap[k]? = w8.heap[k]? := fun k hne => Below.heap_setCell _ ⟨w.heap.size + 2, 6, none⟩ _ k hne
 replace K0 := Aside0.mk (Kd.S_move K0.out (fun k hk => mv k (by have := hk.1; have := E4.out; omega)))
 replace K1 := Aside0.mk (Kd.S_move K1.out (fun k hk => mv k (by have := hk.1; have := E4.out; omega)))
 replace K2 := Aside0.mk (Kd.S_move K2.out (fun k hk => mv k (by have := hk.1; have := E4.out; omega)))
 replace K3 := Aside0.mk (Kd.S_move K3.out (fun k hk => mv k (by have := hk.1; have := E4.out; omega)))
 replace HV := Aside0.mk (Kd.R_move HV.out (fun k hk => mv k (by have := E4.out; omega)))
 replace E4 := Aside0.mk (show w.heap.size + 3 ≤ g0 ∧ g0 ≤ g1 ∧ g1 ≤ g2 ∧ g2 ≤ g3 ∧ g3 ≤ g4 ∧ g4 ≤ (w8.setCell ⟨w.heap.size + 2, 6, none⟩ (.slice Z5 m5 e5)).heap.size from by simpa [World.setCell] using E4.out)
 clear mv x6 y6
 generalize World.setCell _ _ _ = w9 at HB K0 K1 K2 K3 HV E4 ⊢
 have x6 : w9.cell? ⟨w.heap.size + 2, 6, none⟩ = some (.slice Z5 m5 e5) := (blk_cell HB.out.q 6).trans rfl
 have f6 : w9.cell? ⟨w.heap.size, 6, none⟩ = some (.slice A4 B.length c4) := (blk_cell HB.out.box 6).trans rfl
 have y6 := blk_frozen HB.out.q 6
 have hcut := HC.out
 go_upto_region 7 with fail
 replace HB := Aside0.mk (show KP w #[.int .i64 s0, .slice A0 N0.length c0, .slice A1 O0.length c1, .int .i64 s1, .slice A2 N1.length c2, .slice A3 O1.length c3, .slice A4 B.length c4, .bool els] #[.int .i64 s0, .slice Z0 N0.length e0, .slice Z1 O0.length e1, .int .i64 s1, .slice Z2 N1.length e2, .slice Z3 O1.length e3, .slice Z5 B.length e5, .bool els] _ from HB.out.put 6 (.slice Z5 B.length e5))
 have mv : ∀ k, k ≠ w.heap.size + 2 → (w9.setCell ⟨w.heap.size + 2, 6, none⟩ (.slice Z5 B.length e5)).heap[k]? = w9.heap[k]? := fun k hne => Below.heap_setCell _ ⟨w.heap.size + 2, 6, none⟩ _ k hne
 replace K0 := Aside0.mk (Kd.S_move K0.out (fun k hk => mv k (by have := hk.1; have := E4.out; omega)))
 replace K1 := Aside0.mk (Kd.S_move K1.out (fun k hk => mv k (by have := hk.1; have := E4.out; omega)))
 replace K2 := Aside0.mk (Kd.S_move K2.out (fun k hk => mv k (by have := hk.1; have := E4.out; omega)))
 replace K3 := Aside0.mk (Kd.S_move K3.out (fun k hk => mv k (by have := hk.1; have := E4.out; omega)))
 replace HV := Aside0.mk (Kd.R_move HV.out (fun k hk => mv k (by have := E4.out; omega)))
 replace E4 := Aside0.mk (show w.heap.size + 3 ≤ g0 ∧ g0 ≤ g1 ∧ g1 ≤ g2 ∧ g2 ≤ g3 ∧ g3 ≤ g4 ∧ g4 ≤ (w9.setCell ⟨w.heap.size + 2, 6, none⟩ (.slice Z5 B.length e5)).heap.size from by simpa [World.setCell] using E4.out)
 clear mv x6 y6 f6 hcut HC
 generalize World.setCell _ _ _ = wn at HB K0 K1 K2 K3 HV E4 ⊢
 have x0 : wn.cell? ⟨w.heap.size + 2, 0, none⟩ = some (.int .i64 s0) := (blk_cell HB.out.q 0).trans rfl
 have x1 : wn.cell? ⟨w.heap.size + 2, 1, none⟩ = some (.slice Z0 N0.length e0) := (blk_cell HB.out.q 1).trans rfl
 have x2 : wn.cell? ⟨w.heap.size + 2, 2, none⟩ = some (.slice Z1 O0.length e1) := (blk_cell HB.out.q 2).trans rfl
 have x3 : wn.cell? ⟨w.heap.size + 2, 3, none⟩ = some (.int .i64 s1) := (blk_cell HB.out.q 3).trans rfl
 have x4 : wn.cell? ⟨w.heap.size + 2, 4, none⟩ = some (.slice Z2 N1.length e2) := (blk_cell HB.out.q 4).trans rfl
 have x5 : wn.cell? ⟨w.heap.size + 2, 5, none⟩ = some (.slice Z3 O1.length e3) := (blk_cell HB.out.q 5).trans rfl
 have x6 : wn.cell? ⟨w.heap.size + 2, 6, none⟩ = some (.slice Z5 B.length e5) := (blk_cell HB.out.q 6).trans rfl
 have x7 : wn.cell? ⟨w.heap.size + 2, 7, none⟩ = some (.bool els) := (blk_cell HB.out.q 7).trans rfl
 have z0 : wn.cell? ⟨w.heap.size + 1, 0, none⟩ = some (.int .i64 0) := (blk_cell HB.out.res 0).trans rfl
 have y0 := blk_frozen HB.out.res 0
 have z1 : wn.cell? ⟨w.heap.size + 1, 1, none⟩ = some (.slice none 0 0) := (blk_cell HB.out.res 1).trans rfl
 have y1 := blk_frozen HB.out.res 1
 have z2 : wn.cell? ⟨w.heap.size + 1, 2, none⟩ = some (.slice none 0 0) := (blk_cell HB.out.res 2).trans rfl
 have y2 := blk_frozen HB.out.res 2
 have z3 : wn.cell? ⟨w.heap.size + 1, 3, none⟩ = some (.int .i64 0) := (blk_cell HB.out.res 3).trans rfl
 have y3 := blk_frozen HB.out.res 3
 have z4 : wn.cell? ⟨w.heap.size + 1, 4, none⟩ = some (.slice none 0 0) := (blk_cell HB.out.res 4).trans rfl
 have y4 := blk_frozen HB.out.res 4
 have z5 : wn.cell? ⟨w.heap.size + 1, 5, none⟩ = some (.slice none 0 0) := (blk_cell HB.out.res 5).trans rfl
 have y5 := blk_frozen HB.out.res 5
 have z6 : wn.cell? ⟨w.heap.size + 1, 6, none⟩ = some (.slice none 0 0) := (blk_cell HB.out.res 6).trans rfl
 have y6 := blk_frozen HB.out.res 6
 have z7 : wn.cell? ⟨w.heap.size + 1, 7, none⟩ = some (.bool false) := (blk_cell HB.out.res 7).trans rfl
 have y7 := blk_frozen HB.out.res 7
 go_wp2_with fail
 refine bodyPost_ret (results_cell_row rfl _ _ (w.heap.size + 1) 60 #[.int .i64 s0, .slice Z0 N0.length e0, .slice Z1 O0.length e1, .int .i64 s1, .slice Z2 N1.length e2, .slice Z3 O1.length e3, .slice Z5 B.length e5, .bool els] (0, 0) _ rfl (blk_put (blk_put (blk_put (blk_put (blk_put (blk_put (blk_put (blk_put HB.out.res 0 _ rfl) 1 _ rfl) 2 _ rfl) 3 _ rfl) 4 _ rfl) 5 _ rfl) 6 _ rfl) 7 _ rfl) Tryd.underlying60 rfl (by kernel_rfl)) rfl ?_
 refine ⟨Z0, Z1, Z2, Z3, Z5, e0, e1, e2, e3, e5, g0, g1, g2, g3, g4, wn.heap.size, rfl, ?_, ((((((((HB.out.below.setCell (Nat.le_succ _) _).setCell (Nat.le_succ _) _).setCell (Nat.le_succ _) _).setCell (Nat.le_succ _) _).setCell (Nat.le_succ _) _).setCell (Nat.le_succ _) _).setCell (Nat.le_succ _) _).setCell (Nat.le_succ _) _)⟩
 have hE := E4.out
 have hLQ : LQ w.heap.size g0 g1 g2 g3 g4 wn.heap.size Z0 e0 N0 Z1 e1 O0 Z2 e2 N1 Z3 e3 O1 Z5 e5 B wn :=
  ⟨K0.out, K1.out, K2.out, K3.out, Kd.R_mono (Kd.R_bound HV.out) (fun k hk => ⟨hk.1, hk.2.2.1⟩), by omega⟩
 refine hLQ.move (fun k hk1 hk2 => ?_) (by simp [World.setCell])
 have hne : k ≠ w.heap.size + 1 := by omega
 rw [Below.heap_setCell _ ⟨w.heap.size + 1, 7, none⟩ _ k hne, Below.heap_setCell _ ⟨w.heap.size + 1, 6, none⟩ _ k hne, Below.heap_setCell _ ⟨w.heap.size + 1, 5, none⟩ _ k hne, Below.heap_setCell _ ⟨w.heap.size + 1, 4, none⟩ _ k hne, Below.heap_setCell _ ⟨w.heap.size + 1, 3, none⟩ _ k hne, Below.heap_setCell _ ⟨w.heap.size + 1, 2, none⟩ _ k hne, Below.heap_setCell _ ⟨w.heap.size + 1, 1, none⟩ _ k hne, Below.heap_setCell _ ⟨w.heap.size + 1, 0, none⟩ _ k hne]
end Go.Proofs.YtfonajakaimnoaaDoor.C14

namespace Go.Proofs.YtfonajakaimnoaaDoor.C14
open Go.RowKit Go.Proofs.YtfonajakaimnoaaDoorW.PrintWords Go.Proofs.YtfonajakaimnoaaDoorW.PrintLast Go.Proofs.YtfonajakaimnoaaDoorW.PrintMore Go.Proofs.YtfonajakaimnoaaDoor.Lib Lent Go.Proofs.YtfonajakaimnoaaDoor.Fn Go.Proofs.YtfonajakaimnoaaDoor.C11 Go.Proofs.YtfonajakaimnoaaDoor.Lend
set_option linter.unusedVariables false
set_option linter.unusedSimpArgs false
attribute [local go_sem] max2_int min2_int max_two min_two max_three min_three max_four min_four
theorem mark_atB {w : World} {A : Option Addr} {l : List Bool} (h : Kd.C kB w A (bmarks l).length (bmarks l)) :
  ∃ ad, A = some ad ∧ w.cell? (ad.add l.length) = some (.bool true) ∧ w.cell? (ad.add (l.length + 1)) = some (.bool false) := by
 have hm : (bmarks l).length = l.length + 2 := by simp [bmarks]
 obtain ⟨ad, ca, rfl, hK, hc⟩ := C_nth h l.length true (by simp [bmarks])
 obtain ⟨ad', cb, e, hK', hc'⟩ := C_nth h (l.length + 1) false (by simp [bmarks])
 obtain rfl := Option.some.inj e
 refine ⟨ad, rfl, ?_, ?_⟩
 ·have := hc 0 (.bool true) (by rw [show ca = [.bool true] from hK]; rfl)
  rw [show kB.sz = 1 from rfl, Nat.mul_one, Nat.add_zero] at this
  exact this
 ·have := hc' 0 (.bool false) (by rw [show cb = [.bool false] from hK']; rfl)
  rw [show kB.sz = 1 from rfl, Nat.mul_one, Nat.add_zero] at this
  exact this
set_option maxHeartbeats 4000000 in
set_option maxRecDepth 100000 in
theorem kleft_calls {base h0 h1 h2 h3 h4 h5 : Nat} {B0 B1 B2 B3 B4 : Option Addr} {d0 d1 d2 d3 d4 : Nat} {s0 s1 : Int} {N0 O0 N1 O1 : LL} {B : List Bool} {els : Bool} {w : World} (h : LQ base h0 h1 h2 h3 h4 h5 B0 d0 N0 B1 d1 O0 B2 d2 N1 B3 d3 O1 B4 d4 B w)
  (hb : N0.length ≤ 5864062014634 ∧ O0.length ≤ 5864062014634 ∧ N1.length ≤ 5864062014634 ∧ O1.length ≤ 5864062014634 ∧ B.length ≤ 140737488351232)
  (hr : (∀ l ∈ N0, l.length ≤ 17592186043904) ∧ (∀ l ∈ O0, l.length ≤ 17592186043904) ∧ (∀ l ∈ N1, l.length ≤ 17592186043904) ∧ (∀ l ∈ O1, l.length ≤ 17592186043904)) :
  Calls Tryd.prog 44 #[.agg #[.int .i64 s0, .slice B0 N0.length d0, .slice B1 O0.length d1, .int .i64 s1, .slice B2 N1.length d2, .slice B3 O1.length d3, .slice B4 B.length d4, .bool els]] w fun e w' => e = .returned (.bool true) ∧ Below w.heap.size w w' := by
 have hu := Tryd.underlying60
 have hu2 := Tryd.underlying24
 have HN := Aside0.mk hb
 have HRR := Aside0.mk hr
 have HL := Aside0.mk h
 clear h hb hr
 go_enter Tryd.func44, Tryd.ntmps44
 go_wp2_with fail
 have HB := Aside0.mk (below_alloc (Below.refl w.heap.size w) (.cells #[.int .i64 s0, .slice B0 N0.length d0, .slice B1 O0.length d1, .int .i64 s1, .slice B2 N1.length d2, .slice B3 O1.length d3, .slice B4 B.length d4, .bool els] 60))
 have HX := Aside0.mk (heap_alloc_new w (.cells #[.int .i64 s0, .slice B0 N0.length d0, .slice B1 O0.length d1, .int .i64 s1, .slice B2 N1.length d2, .slice B3 O1.length d3, .slice B4 B.length d4, .bool els] 60))
 obtain ⟨_, l0, c0⟩ := Kd.S_reads' HL.out.p0
 refine (rowsLeft_calls B0 d0 N0 _ (Kd.C_below c0 HB.out) l0 HN.out.1 HRR.out.1).mono ?_
 rintro e w1 ⟨rfl, hb⟩
 replace HX := Aside0.mk ((hb.block _ (blk_lt HX.out)).trans HX.out)
 replace HB := Aside0.mk (below_step HB.out hb)
 clear hb l0 c0
 have f0 : w1.cell? ⟨w.heap.size, 0, none⟩ = some (.int .i64 s0) := (blk_cell HX.out 0).trans rfl
 have f1 : w1.cell? ⟨w.heap.size, 1, none⟩ = some (.slice B0 N0.length d0) := (blk_cell HX.out 1).trans rfl
 have f2 : w1.cell? ⟨w.heap.size, 2, none⟩ = some (.slice B1 O0.length d1) := (blk_cell HX.out 2).trans rfl
 have f3 : w1.cell? ⟨w.heap.size, 3, none⟩ = some (.int .i64 s1) := (blk_cell HX.out 3).trans rfl
 have f4 : w1.cell? ⟨w.heap.size, 4, none⟩ = some (.slice B2 N1.length d2) := (blk_cell HX.out 4).trans rfl
 have f5 : w1.cell? ⟨w.heap.size, 5, none⟩ = some (.slice B3 O1.length d3) := (blk_cell HX.out 5).trans rfl
 have f6 : w1.cell? ⟨w.heap.size, 6, none⟩ = some (.slice B4 B.length d4) := (blk_cell HX.out 6).trans rfl
 have f7 : w1.cell? ⟨w.heap.size, 7, none⟩ = some (.bool els) := (blk_cell HX.out 7).trans rfl
 go_wp2_with fail
 obtain ⟨_, l0, c0⟩ := Kd.S_reads' HL.out.p1
 refine (rowsLeft_calls B1 d1 O0 _ (Kd.C_below c0 HB.out) l0 HN.out.2.1 HRR.out.2.1).mono ?_
 rintro e w2 ⟨rfl, hb⟩
 replace HX := Aside0.mk ((hb.block _ (blk_lt HX.out)).trans HX.out)
 replace HB := Aside0.mk (below_step HB.out hb)
 clear hb l0 c0
 try clear f0 f1 f2 f3 f4 f5 f6 f7
 have f0 : w2.cell? ⟨w.heap.size, 0, none⟩ = some (.int .i64 s0) := (blk_cell HX.out 0).trans rfl
 have f1 : w2.cell? ⟨w.heap.size, 1, none⟩ = some (.slice B0 N0.length d0) := (blk_cell HX.out 1).trans rfl
 have f2 : w2.cell? ⟨w.heap.size, 2, none⟩ = some (.slice B1 O0.length d1) := (blk_cell HX.out 2).trans rfl
 have f3 : w2.cell? ⟨w.heap.size, 3, none⟩ = some (.int .i64 s1) := (blk_cell HX.out 3).trans rfl
 have f4 : w2.cell? ⟨w.heap.size, 4, none⟩ = some (.slice B2 N1.length d2) := (blk_cell HX.out 4).trans rfl
 have f5 : w2.cell? ⟨w.heap.size, 5, none⟩ = some (.slice B3 O1.length d3) := (blk_cell HX.out 5).trans rfl
 have f6 : w2.cell? ⟨w.heap.size, 6, none⟩ = some (.slice B4 B.length d4) := (blk_cell HX.out 6).trans rfl
 have f7 : w2.cell? ⟨w.heap.size, 7, none⟩ = some (.bool els) := (blk_cell HX.out 7).trans rfl
 go_wp2_with fail
 obtain ⟨_, l0, c0⟩ := Kd.S_reads' HL.out.p2
 refine (rowsLeft_calls B2 d2 N1 _ (Kd.C_below c0 HB.out) l0 HN.out.2.2.1 HRR.out.2.2.1).mono ?_
 rintro e w3 ⟨rfl, hb⟩
 replace HX := Aside0.mk ((hb.block _ (blk_lt HX.out)).trans HX.out)
 replace HB := Aside0.mk (below_step HB.out hb)
 clear hb l0 c0
 try clear f0 f1 f2 f3 f4 f5 f6 f7
 have f0 : w3.cell? ⟨w.heap.size, 0, none⟩ = some (.int .i64 s0) := (blk_cell HX.out 0).trans rfl
 have f1 : w3.cell? ⟨w.heap.size, 1, none⟩ = some (.slice B0 N0.length d0) := (blk_cell HX.out 1).trans rfl
 have f2 : w3.cell? ⟨w.heap.size, 2, none⟩ = some (.slice B1 O0.length d1) := (blk_cell HX.out 2).trans rfl
 have f3 : w3.cell? ⟨w.heap.size, 3, none⟩ = some (.int .i64 s1) := (blk_cell HX.out 3).trans rfl
 have f4 : w3.cell? ⟨w.heap.size, 4, none⟩ = some (.slice B2 N1.length d2) := (blk_cell HX.out 4).trans rfl
 have f5 : w3.cell? ⟨w.heap.size, 5, none⟩ = some (.slice B3 O1.length d3) := (blk_cell HX.out 5).trans rfl
 have f6 : w3.cell? ⟨w.heap.size, 6, none⟩ = some (.slice B4 B.length d4) := (blk_cell HX.out 6).trans rfl
 have f7 : w3.cell? ⟨w.heap.size, 7, none⟩ = some (.bool els) := (blk_cell HX.out 7).trans rfl
 go_wp2_with fail
 obtain ⟨_, l0, c0⟩ := Kd.S_reads' HL.out.p3
 refine (rowsLeft_calls B3 d3 O1 _ (Kd.C_below c0 HB.out) l0 HN.out.2.2.2.1 HRR.out.2.2.2).mono ?_
 rintro e w4 ⟨rfl, hb⟩
 replace HX := Aside0.mk ((hb.block _ (blk_lt HX.out)).trans HX.out)
 replace HB := Aside0.mk (below_step HB.out hb)
 clear hb l0 c0
 try clear f0 f1 f2 f3 f4 f5 f6 f7
 obtain ⟨_, l4, c4⟩ := Kd.R_reads' HL.out.p4
 obtain ⟨ad, rfl, m1, m2⟩ := mark_atB (Kd.C_below c4 HB.out)
 have hm : (bmarks B).length = B.length + 2 := by simp [bmarks]
 have hBb := HN.out.2.2.2.2
 have hcut := cut_pastB (some ad) B.length d4 ((B.length : Int) + 2) (by omega) (by omega)
 have e2 : ((B.length : Int) + 2).toNat = B.length + 2 := by omega
 rw [e2] at hcut
 have hb1 : (B.length : Int) < ((B.length + 2 : Nat) : Int) := by omega
 have hb2 : (B.length : Int) + 1 < ((B.length + 2 : Nat) : Int) := by omega
 have hb3 : B.length < B.length + 2 := by omega
 have hb4 : B.length + 1 < B.length + 2 := by omega
 have m3 : w4.cell? { block := ad.block, off := ad.off + (B.length + 1) } = some (.bool false) := by simpa [Addr.add] using m2
 clear c4 hm e2 l4
 have f0 : w4.cell? ⟨w.heap.size, 0, none⟩ = some (.int .i64 s0) := (blk_cell HX.out 0).trans rfl
 have f1 : w4.cell? ⟨w.heap.size, 1, none⟩ = some (.slice B0 N0.length d0) := (blk_cell HX.out 1).trans rfl
 have f2 : w4.cell? ⟨w.heap.size, 2, none⟩ = some (.slice B1 O0.length d1) := (blk_cell HX.out 2).trans rfl
 have f3 : w4.cell? ⟨w.heap.size, 3, none⟩ = some (.int .i64 s1) := (blk_cell HX.out 3).trans rfl
 have f4 : w4.cell? ⟨w.heap.size, 4, none⟩ = some (.slice B2 N1.length d2) := (blk_cell HX.out 4).trans rfl
 have f5 : w4.cell? ⟨w.heap.size, 5, none⟩ = some (.slice B3 O1.length d3) := (blk_cell HX.out 5).trans rfl
 have f6 : w4.cell? ⟨w.heap.size, 6, none⟩ = some (.slice (some ad) B.length d4) := (blk_cell HX.out 6).trans rfl
 have f7 : w4.cell? ⟨w.heap.size, 7, none⟩ = some (.bool els) := (blk_cell HX.out 7).trans rfl
 go_wp2_with fail
 repeat (go_quiet (fail); try go_wp2)
 go_ret
 exact ⟨rfl, by repeat (first | exact HB.out | apply pw_below_drewN | apply below_drew1)⟩
end Go.Proofs.YtfonajakaimnoaaDoor.C14

namespace Go.Proofs.YtfonajakaimnoaaDoor.C14
open Go.RowKit Go.Proofs.YtfonajakaimnoaaDoorW.PrintWords Go.Proofs.YtfonajakaimnoaaDoorW.PrintLast Go.Proofs.YtfonajakaimnoaaDoorW.PrintMore Go.Proofs.YtfonajakaimnoaaDoor.Lib Lent Go.Proofs.YtfonajakaimnoaaDoor.Fn Go.Proofs.YtfonajakaimnoaaDoor.C11 Go.Proofs.YtfonajakaimnoaaDoor.Lend
set_option linter.unusedVariables false
set_option linter.unusedSimpArgs false
def set00 (v : Int) : LL → LL
 | [] => []
 | [] :: rest => [] :: rest
 | (_ :: r) :: rest => (v :: r) :: rest
def notB : List Bool → List Bool
 | [] => []
 | b :: r => (!b) :: r
theorem set00_length (v : Int) (L : LL) : (set00 v L).length = L.length := by
 rcases L with _ | ⟨_ | ⟨x, r⟩, rest⟩ <;> rfl
theorem notB_length (B : List Bool) : (notB B).length = B.length := by cases B <;> rfl
theorem first_row {W : World} {base : Nat} {ok : Nat → Prop} {A : Option Addr} {d : Nat} {L : LL} (h : Kd.S kM 25 W base ok (.slice A (rowsM L).length d) (rowsM L)) :
  (L.length = 0 ∧ ∀ v, set00 v L = L) ∨
  (∃ gb A' c', A = some ⟨gb, 0, none⟩ ∧ 0 < L.length ∧ W.cell? ⟨gb, 0, none⟩ = some (.slice A' 0 c') ∧ ∀ v, set00 v L = L) ∨
  (∃ gb g c' n, A = some ⟨gb, 0, none⟩ ∧ 0 < L.length ∧ 0 < n ∧ W.cell? ⟨gb, 0, none⟩ = some (.slice (some ⟨g, 0, none⟩) n c') ∧ ok g ∧ W.frozen? ⟨g, 0, none⟩ = false ∧ (∃ x, W.cell? ⟨g, 0, none⟩ = some (.int .i64 x)) ∧
   ∀ v, Kd.S kM 25 (W.setCell ⟨g, 0, none⟩ (.int .i64 v)) base ok (.slice A (rowsM (set00 v L)).length d) (rowsM (set00 v L))) := by
 cases L with
 | nil => exact .inl ⟨rfl, fun _ => rfl⟩
 | cons y rest =>
  obtain ⟨gb, cap, e, _, _, _⟩ := Kd.S_form h (by rw [rowsM_length]; exact Nat.succ_pos _)
  injection e with e1 e2 e3
  subst e1
  obtain ⟨oki, c, _, hM, hcc, hoki, hH⟩ := Kd.S_lend h ([], []) (0 : Int) (by omega) (by rw [rowsM_length]; omega)
  obtain ⟨A', c', rfl, hR⟩ := hM
  have hx : (rowsM (y :: rest)).getD (0 : Int).toNat ([], []) = (y, [-77, -77]) := rfl
  rw [hx] at hR hcc hH
  have hcell := hcc 0 _ rfl
  cases y with
  | nil => exact .inr (.inl ⟨gb, A', c', rfl, Nat.succ_pos _, hcell, fun _ => rfl⟩)
  | cons x r =>
   obtain ⟨g, cap', e', _, _, cells, hcells⟩ := Kd.R_form hR (by simp)
   have hA : A' = some ⟨g, 0, none⟩ := by injection e'
   subst hA
   have hok : oki g := hR.1 g (by simp [Value.ownBlock])
   have hc := Kd.R_cell (d := 0) hR (0 : Int) (by omega) (by simp; omega)
   refine .inr (.inr ⟨gb, g, c', (x :: r).length, rfl, Nat.succ_pos _, Nat.succ_pos _, hcell, (hoki g hok).1, hc.2, ⟨_, hc.1⟩, fun v => ?_⟩)
   have hp := (Kd.R_put hR (0 : Int) v).1
   have hH' := Kd.H_step (w1 := W.setCell ⟨g, 0, none⟩ (.int .i64 v)) hH (fun k _ hn _ => Below.heap_setCell W ⟨g, 0, none⟩ _ k (fun e => hn (by rw [show k = g from e]; exact hok)))
   have := Kd.H_back hH' (x' := (v :: r, [-77, -77])) (okp := oki) ⟨some ⟨g, 0, none⟩, c', rfl, hp⟩ (fun _ hk => hk)
   exact this
theorem first_bool {W : World} {base : Nat} {ok : Nat → Prop} {A : Option Addr} {d : Nat} {B : List Bool} (h : Kd.R kB 4 W base ok (.slice A (bmarks B).length d) (bmarks B)) (hB : 0 < B.length) :
  ∃ g b, A = some ⟨g, 0, none⟩ ∧ ok g ∧ W.cell? ⟨g, 0, none⟩ = some (.bool b) ∧ W.frozen? ⟨g, 0, none⟩ = false ∧
   Kd.R kB 4 (W.setCell ⟨g, 0, none⟩ (.bool !b)) base ok (.slice A (bmarks (notB B)).length d) (bmarks (notB B)) := by
 obtain ⟨b, r, rfl⟩ : ∃ b r, B = b :: r := by
  cases B with
  | nil => cases hB
  | cons b r => exact ⟨b, r, rfl⟩
 obtain ⟨g, cap, e, _, _, cells, hcells⟩ := Kd.R_form h (by simp [bmarks])
 have hA : A = some ⟨g, 0, none⟩ := by injection e
 subst hA
 have hc := Kd.R_cell (d := false) h (0 : Int) (by omega) (by simp [bmarks]; omega)
 exact ⟨g, b, rfl, h.1 g (by simp [Value.ownBlock]), hc.1, hc.2, (Kd.R_put h (0 : Int) (!b)).1⟩
structure OV (w : World) (CE : Array Value) (base h0 h1 h2 h3 h4 h5 : Nat) (B0 : Option Addr) (d0 : Nat) (N0 : LL) (B1 : Option Addr) (d1 : Nat) (O0 : LL) (B2 : Option Addr) (d2 : Nat) (N1 : LL) (B3 : Option Addr) (d3 : Nat) (O1 : LL) (B4 : Option Addr) (d4 : Nat) (B : List Bool) (W : World) : Prop where
 lq : LQ base h0 h1 h2 h3 h4 h5 B0 d0 N0 B1 d1 O0 B2 d2 N1 B3 d3 O1 B4 d4 B W
 below : Below h0 w W
 keep : ∀ k, h5 ≤ k → k < w.heap.size → W.heap[k]? = w.heap[k]?
 box : W.heap[w.heap.size]? = some (.cells CE 60 (0, 0))
 le : h5 ≤ w.heap.size
section
variable {w : World} {CE : Array Value} {base h0 h1 h2 h3 h4 h5 : Nat} {B0 B1 B2 B3 B4 : Option Addr} {d0 d1 d2 d3 d4 : Nat} {N0 O0 N1 O1 : LL} {B : List Bool} {W W' : World}
theorem OV.step (h : OV w CE base h0 h1 h2 h3 h4 h5 B0 d0 N0 B1 d1 O0 B2 d2 N1 B3 d3 O1 B4 d4 B W) (hb : Below W.heap.size W W') : OV w CE base h0 h1 h2 h3 h4 h5 B0 d0 N0 B1 d1 O0 B2 d2 N1 B3 d3 O1 B4 d4 B W' := by
 have h1 := h.below.size
 have h2 := h.le
 have h3 := h.lq.o
 exact ⟨h.lq.step hb, h.below.trans (hb.mono (by omega)), fun k hk hlt => (hb.block k (by omega)).trans (h.keep k hk hlt), (hb.block _ (blk_lt h.box)).trans h.box, h.le⟩
theorem OV.put1 (h : OV w CE base h0 h1 h2 h3 h4 h5 B0 d0 N0 B1 d1 O0 B2 d2 N1 B3 d3 O1 B4 d4 B W) {g : Nat} (hg : rng h1 h2 g) (v : Value) {X : LL}
  (hp : Kd.S kM 25 (W.setCell ⟨g, 0, none⟩ v) base (rng h1 h2) (.slice B1 (rowsM X).length d1) (rowsM X)) : OV w CE base h0 h1 h2 h3 h4 h5 B0 d0 N0 B1 d1 X B2 d2 N1 B3 d3 O1 B4 d4 B (W.setCell ⟨g, 0, none⟩ v) := by
 have ho := h.lq.o
 have hle := h.le
 obtain ⟨g1, g2⟩ := hg
 have mv : ∀ k, k ≠ g → (W.setCell ⟨g, 0, none⟩ v).heap[k]? = W.heap[k]? := fun k hne => Below.heap_setCell W ⟨g, 0, none⟩ v k hne
 have hs : (W.setCell ⟨g, 0, none⟩ v).heap.size = W.heap.size := by simp [World.setCell]
 exact ⟨⟨Kd.S_move h.lq.p0 (fun k hk => mv k (by have := hk.2; omega)), hp, Kd.S_move h.lq.p2 (fun k hk => mv k (by have := hk.1; omega)), Kd.S_move h.lq.p3 (fun k hk => mv k (by have := hk.1; omega)), Kd.R_move h.lq.p4 (fun k hk => mv k (by have := hk.1; omega)), by omega⟩,
  h.below.setCell (by show h0 ≤ g; omega) _, fun k hk hlt => (mv k (by omega)).trans (h.keep k hk hlt), (mv _ (by omega)).trans h.box, hle⟩
theorem OV.put2 (h : OV w CE base h0 h1 h2 h3 h4 h5 B0 d0 N0 B1 d1 O0 B2 d2 N1 B3 d3 O1 B4 d4 B W) {g : Nat} (hg : rng h2 h3 g) (v : Value) {X : LL}
  (hp : Kd.S kM 25 (W.setCell ⟨g, 0, none⟩ v) base (rng h2 h3) (.slice B2 (rowsM X).length d2) (rowsM X)) : OV w CE base h0 h1 h2 h3 h4 h5 B0 d0 N0 B1 d1 O0 B2 d2 X B3 d3 O1 B4 d4 B (W.setCell ⟨g, 0, none⟩ v) := by
 have ho := h.lq.o
 have hle := h.le
 obtain ⟨g1, g2⟩ := hg
 have mv : ∀ k, k ≠ g → (W.setCell ⟨g, 0, none⟩ v).heap[k]? = W.heap[k]? := fun k hne => Below.heap_setCell W ⟨g, 0, none⟩ v k hne
 have hs : (W.setCell ⟨g, 0, none⟩ v).heap.size = W.heap.size := by simp [World.setCell]
 exact ⟨⟨Kd.S_move h.lq.p0 (fun k hk => mv k (by have := hk.2; omega)), Kd.S_move h.lq.p1 (fun k hk => mv k (by have := hk.2; omega)), hp, Kd.S_move h.lq.p3 (fun k hk => mv k (by have := hk.1; omega)), Kd.R_move h.lq.p4 (fun k hk => mv k (by have := hk.1; omega)), by omega⟩,
  h.below.setCell (by show h0 ≤ g; omega) _, fun k hk hlt => (mv k (by omega)).trans (h.keep k hk hlt), (mv _ (by omega)).trans h.box, hle⟩
theorem OV.put4 (h : OV w CE base h0 h1 h2 h3 h4 h5 B0 d0 N0 B1 d1 O0 B2 d2 N1 B3 d3 O1 B4 d4 B W) {g : Nat} (hg : rng h4 h5 g) (v : Value) {X : List Bool}
  (hp : Kd.R kB 4 (W.setCell ⟨g, 0, none⟩ v) base (rng h4 h5) (.slice B4 (bmarks X).length d4) (bmarks X)) : OV w CE base h0 h1 h2 h3 h4 h5 B0 d0 N0 B1 d1 O0 B2 d2 N1 B3 d3 O1 B4 d4 X (W.setCell ⟨g, 0, none⟩ v) := by
 have ho := h.lq.o
 have hle := h.le
 obtain ⟨g1, g2⟩ := hg
 have mv : ∀ k, k ≠ g → (W.setCell ⟨g, 0, none⟩ v).heap[k]? = W.heap[k]? := fun k hne => Below.heap_setCell W ⟨g, 0, none⟩ v k hne
 have hs : (W.setCell ⟨g, 0, none⟩ v).heap.size = W.heap.size := by simp [World.setCell]
 exact ⟨⟨Kd.S_move h.lq.p0 (fun k hk => mv k (by have := hk.2; omega)), Kd.S_move h.lq.p1 (fun k hk => mv k (by have := hk.2; omega)), Kd.S_move h.lq.p2 (fun k hk => mv k (by have := hk.2; omega)), Kd.S_move h.lq.p3 (fun k hk => mv k (by have := hk.2; omega)), hp, by omega⟩,
  h.below.setCell (by show h0 ≤ g; omega) _, fun k hk hlt => (mv k (by omega)).trans (h.keep k hk hlt), (mv _ (by omega)).trans h.box, hle⟩
end
end Go.Proofs.YtfonajakaimnoaaDoor.C14

namespace Go.Proofs.YtfonajakaimnoaaDoor.C14
open Go.RowKit Go.Proofs.YtfonajakaimnoaaDoorW.PrintWords Go.Proofs.YtfonajakaimnoaaDoorW.PrintLast Go.Proofs.YtfonajakaimnoaaDoorW.PrintMore Go.Proofs.YtfonajakaimnoaaDoor.Lib Lent Go.Proofs.YtfonajakaimnoaaDoor.Fn Go.Proofs.YtfonajakaimnoaaDoor.C11 Go.Proofs.YtfonajakaimnoaaDoor.Lend
set_option linter.unusedVariables false
set_option linter.unusedSimpArgs false
attribute [local go_sem] max2_int min2_int max_two min_two max_three min_three max_four min_four
def ov.T2 : Bool × List (List Nat × List Nat) := (true, [([], []), ([0], [0]), ([], []), ([2], [2]), ([3], [3]), ([4], [4]), ([5], [5]), ([1, 0, 1, 2, 3, 4, 5, 6], [1]), ([7, 6, 0, 1, 2, 3, 4, 5, 6], [6, 7])])
def ov.B2 : List Nat := [0, 1, 0, 4, 12, 28, 60, 127, 255]
theorem ov.tab2 : rtab .any (opsOf Tryd.f49 2) = ov.T2 := by kernel_rfl
theorem ov.bits2 : waitsOk ov.T2.2 ov.B2 = true := by kernel_rfl
set_option maxHeartbeats 4000000 in
set_option maxRecDepth 100000 in
theorem over_calls {base h0 h1 h2 h3 h4 h5 : Nat} {B0 B1 B2 B3 B4 : Option Addr} {d0 d1 d2 d3 d4 : Nat} {s0 s1 : Int} {N0 O0 N1 O1 : LL} {B : List Bool} {els : Bool} {w : World} (h : LQ base h0 h1 h2 h3 h4 h5 B0 d0 N0 B1 d1 O0 B2 d2 N1 B3 d3 O1 B4 d4 B w) :
  Calls Tryd.prog 49 #[.agg #[.int .i64 s0, .slice B0 N0.length d0, .slice B1 O0.length d1, .int .i64 s1, .slice B2 N1.length d2, .slice B3 O1.length d3, .slice B4 B.length d4, .bool els]] w fun e w' => e = .returned (.tuple #[]) ∧ LQ base h0 h1 h2 h3 h4 h5 B0 d0 N0 B1 d1 (set00 0 O0) B2 d2 (set00 0 N1) B3 d3 O1 B4 d4 (notB B) w' ∧ Below h0 w w' ∧ ∀ k, h5 ≤ k → k < w.heap.size → w'.heap[k]? = w.heap[k]? := by
 have hu := Tryd.underlying60
 have hu2 := Tryd.underlying24
 have L1 := set00_length 0 O0
 have HO : Aside0 (OV w #[.int .i64 s0, .slice B0 N0.length d0, .slice B1 O0.length d1, .int .i64 s1, .slice B2 N1.length d2, .slice B3 O1.length d3, .slice B4 B.length d4, .bool els] base h0 h1 h2 h3 h4 h5 B0 d0 N0 B1 d1 O0 B2 d2 N1 B3 d3 O1 B4 d4 B (w.alloc (.cells #[.int .i64 s0, .slice B0 N0.length d0, .slice B1 O0.length d1, .int .i64 s1, .slice B2 N1.length d2, .slice B3 O1.length d3, .slice B4 B.length d4, .bool els] 60))) :=
  ⟨⟨h.step (below_alloc (Below.refl _ _) _), (below_alloc (Below.refl _ _) _).mono (by have := h.o; omega), fun k _ hk => heap_alloc_old _ _ hk, heap_alloc_new _ _, h.o.2.2.2.2.2.2⟩⟩
 clear h L1
 go_enter Tryd.func49, Tryd.ntmps49
 go_upto_region 1 with fail
 generalize World.alloc _ _ = w1 at HO ⊢
 rcases Nat.eq_zero_or_pos B.length with hb | hb
 ·have hBn : Aside0 (notB B = B) := ⟨by
   cases B with
   | nil => rfl
   | cons b r => cases hb⟩
  have f0 : w1.cell? ⟨w.heap.size, 0, none⟩ = some (.int .i64 s0) := (blk_cell HO.out.box 0).trans rfl
  have f1 : w1.cell? ⟨w.heap.size, 1, none⟩ = some (.slice B0 N0.length d0) := (blk_cell HO.out.box 1).trans rfl
  have f2 : w1.cell? ⟨w.heap.size, 2, none⟩ = some (.slice B1 O0.length d1) := (blk_cell HO.out.box 2).trans rfl
  have f3 : w1.cell? ⟨w.heap.size, 3, none⟩ = some (.int .i64 s1) := (blk_cell HO.out.box 3).trans rfl
  have f4 : w1.cell? ⟨w.heap.size, 4, none⟩ = some (.slice B2 N1.length d2) := (blk_cell HO.out.box 4).trans rfl
  have f5 : w1.cell? ⟨w.heap.size, 5, none⟩ = some (.slice B3 O1.length d3) := (blk_cell HO.out.box 5).trans rfl
  have f6 : w1.cell? ⟨w.heap.size, 6, none⟩ = some (.slice B4 B.length d4) := (blk_cell HO.out.box 6).trans rfl
  have f7 : w1.cell? ⟨w.heap.size, 7, none⟩ = some (.bool els) := (blk_cell HO.out.box 7).trans rfl
  have qi : ¬ (0 : Int) < (B.length : Int) := by omega
  have qd : decide ((0 : Int) < (B.length : Int)) = false := decide_eq_false qi
  go_upto_region 3 with fail
  clear f0 f1 f2 f3 f4 f5 f6 f7
  clear qi qd hb
  rcases first_row HO.out.lq.p1 with ⟨e0, ez⟩ | ⟨gb, A', c', hA, e0, hcell, ez⟩ | ⟨gb, gg, c', n, hA, e0, en, hcell, hok, hfr, ⟨xx, hxx⟩, hput⟩
  ·have f0 : w1.cell? ⟨w.heap.size, 0, none⟩ = some (.int .i64 s0) := (blk_cell HO.out.box 0).trans rfl
   have f1 : w1.cell? ⟨w.heap.size, 1, none⟩ = some (.slice B0 N0.length d0) := (blk_cell HO.out.box 1).trans rfl
   have f2 : w1.cell? ⟨w.heap.size, 2, none⟩ = some (.slice B1 O0.length d1) := (blk_cell HO.out.box 2).trans rfl
   have f3 : w1.cell? ⟨w.heap.size, 3, none⟩ = some (.int .i64 s1) := (blk_cell HO.out.box 3).trans rfl
   have f4 : w1.cell? ⟨w.heap.size, 4, none⟩ = some (.slice B2 N1.length d2) := (blk_cell HO.out.box 4).trans rfl
   have f5 : w1.cell? ⟨w.heap.size, 5, none⟩ = some (.slice B3 O1.length d3) := (blk_cell HO.out.box 5).trans rfl
   have f6 : w1.cell? ⟨w.heap.size, 6, none⟩ = some (.slice B4 B.length d4) := (blk_cell HO.out.box 6).trans rfl
   have f7 : w1.cell? ⟨w.heap.size, 7, none⟩ = some (.bool els) := (blk_cell HO.out.box 7).trans rfl
   have oi : ¬ (0 : Int) < (O0.length : Int) := by omega
   have od : decide ((0 : Int) < (O0.length : Int)) = false := decide_eq_false oi
   go_upto_region 5 with fail
   have ezo := Aside0.mk (ez 0)
   clear ez
   clear f0 f1 f2 f3 f4 f5 f6 f7
   clear oi od e0
   rcases first_row HO.out.lq.p2 with ⟨e0, ez⟩ | ⟨gb2, A', c', hA, e0, hcell, ez⟩ | ⟨gb2, gg, c', n, hA, e0, en, hcell, hok, hfr, ⟨xx, hxx⟩, hput⟩
   ·have f0 : w1.cell? ⟨w.heap.size, 0, none⟩ = some (.int .i64 s0) := (blk_cell HO.out.box 0).trans rfl
    have f1 : w1.cell? ⟨w.heap.size, 1, none⟩ = some (.slice B0 N0.length d0) := (blk_cell HO.out.box 1).trans rfl
    have f2 : w1.cell? ⟨w.heap.size, 2, none⟩ = some (.slice B1 O0.length d1) := (blk_cell HO.out.box 2).trans rfl
    have f3 : w1.cell? ⟨w.heap.size, 3, none⟩ = some (.int .i64 s1) := (blk_cell HO.out.box 3).trans rfl
    have f4 : w1.cell? ⟨w.heap.size, 4, none⟩ = some (.slice B2 N1.length d2) := (blk_cell HO.out.box 4).trans rfl
    have f5 : w1.cell? ⟨w.heap.size, 5, none⟩ = some (.slice B3 O1.length d3) := (blk_cell HO.out.box 5).trans rfl
    have f6 : w1.cell? ⟨w.heap.size, 6, none⟩ = some (.slice B4 B.length d4) := (blk_cell HO.out.box 6).trans rfl
    have f7 : w1.cell? ⟨w.heap.size, 7, none⟩ = some (.bool els) := (blk_cell HO.out.box 7).trans rfl
    have oi : ¬ (0 : Int) < (N1.length : Int) := by omega
    have od : decide ((0 : Int) < (N1.length : Int)) = false := decide_eq_false oi
    go_wp2_with fail
    have ezn := Aside0.mk (ez 0)
    exact bodyPost_end (v := .tuple #[]) (by simp [results, Tryd.results49, go_sem]) rfl ⟨rfl, by
     try rw [ezo.out]
     try rw [ezn.out]
     try rw [hBn.out]
     exact ⟨HO.out.lq, HO.out.below, HO.out.keep⟩⟩
   ·subst hA
    have f0 : w1.cell? ⟨w.heap.size, 0, none⟩ = some (.int .i64 s0) := (blk_cell HO.out.box 0).trans rfl
    have f1 : w1.cell? ⟨w.heap.size, 1, none⟩ = some (.slice B0 N0.length d0) := (blk_cell HO.out.box 1).trans rfl
    have f2 : w1.cell? ⟨w.heap.size, 2, none⟩ = some (.slice B1 O0.length d1) := (blk_cell HO.out.box 2).trans rfl
    have f3 : w1.cell? ⟨w.heap.size, 3, none⟩ = some (.int .i64 s1) := (blk_cell HO.out.box 3).trans rfl
    have f4 : w1.cell? ⟨w.heap.size, 4, none⟩ = some (.slice (some ⟨gb2, 0, none⟩) N1.length d2) := (blk_cell HO.out.box 4).trans rfl
    have f5 : w1.cell? ⟨w.heap.size, 5, none⟩ = some (.slice B3 O1.length d3) := (blk_cell HO.out.box 5).trans rfl
    have f6 : w1.cell? ⟨w.heap.size, 6, none⟩ = some (.slice B4 B.length d4) := (blk_cell HO.out.box 6).trans rfl
    have f7 : w1.cell? ⟨w.heap.size, 7, none⟩ = some (.bool els) := (blk_cell HO.out.box 7).trans rfl
    have oi : (0 : Int) < (N1.length : Int) := by omega
    have od : decide ((0 : Int) < (N1.length : Int)) = true := decide_eq_true oi
    go_wp2_with fail
    have ezn := Aside0.mk (ez 0)
    exact bodyPost_end (v := .tuple #[]) (by simp [results, Tryd.results49, go_sem]) rfl ⟨rfl, by
     try rw [ezo.out]
     try rw [ezn.out]
     try rw [hBn.out]
     exact ⟨HO.out.lq, HO.out.below, HO.out.keep⟩⟩
   ·subst hA
    have f0 : w1.cell? ⟨w.heap.size, 0, none⟩ = some (.int .i64 s0) := (blk_cell HO.out.box 0).trans rfl
    have f1 : w1.cell? ⟨w.heap.size, 1, none⟩ = some (.slice B0 N0.length d0) := (blk_cell HO.out.box 1).trans rfl
    have f2 : w1.cell? ⟨w.heap.size, 2, none⟩ = some (.slice B1 O0.length d1) := (blk_cell HO.out.box 2).trans rfl
    have f3 : w1.cell? ⟨w.heap.size, 3, none⟩ = some (.int .i64 s1) := (blk_cell HO.out.box 3).trans rfl
    have f4 : w1.cell? ⟨w.heap.size, 4, none⟩ = some (.slice (some ⟨gb2, 0, none⟩) N1.length d2) := (blk_cell HO.out.box 4).trans rfl
    have f5 : w1.cell? ⟨w.heap.size, 5, none⟩ = some (.slice B3 O1.length d3) := (blk_cell HO.out.box 5).trans rfl
    have f6 : w1.cell? ⟨w.heap.size, 6, none⟩ = some (.slice B4 B.length d4) := (blk_cell HO.out.box 6).trans rfl
    have f7 : w1.cell? ⟨w.heap.size, 7, none⟩ = some (.bool els) := (blk_cell HO.out.box 7).trans rfl
    have oi : (0 : Int) < (N1.length : Int) := by omega
    have od : decide ((0 : Int) < (N1.length : Int)) = true := decide_eq_true oi
    have ni : (0 : Int) < (n : Int) := by omega
    have nd : decide ((0 : Int) < (n : Int)) = true := decide_eq_true ni
    go_wp2_with fail
    replace HO := Aside0.mk (HO.out.put2 hok (.int .i64 0) (hput 0))
    clear hput hfr hxx hok
    exact bodyPost_end (v := .tuple #[]) (by simp [results, Tryd.results49, go_sem]) rfl ⟨rfl, by
     try rw [ezo.out]
     try rw [hBn.out]
     exact ⟨HO.out.lq, HO.out.below, HO.out.keep⟩⟩
  ·subst hA
   have f0 : w1.cell? ⟨w.heap.size, 0, none⟩ = some (.int .i64 s0) := (blk_cell HO.out.box 0).trans rfl
   have f1 : w1.cell? ⟨w.heap.size, 1, none⟩ = some (.slice B0 N0.length d0) := (blk_cell HO.out.box 1).trans rfl
   have f2 : w1.cell? ⟨w.heap.size, 2, none⟩ = some (.slice (some ⟨gb, 0, none⟩) O0.length d1) := (blk_cell HO.out.box 2).trans rfl
   have f3 : w1.cell? ⟨w.heap.size, 3, none⟩ = some (.int .i64 s1) := (blk_cell HO.out.box 3).trans rfl
   have f4 : w1.cell? ⟨w.heap.size, 4, none⟩ = some (.slice B2 N1.length d2) := (blk_cell HO.out.box 4).trans rfl
   have f5 : w1.cell? ⟨w.heap.size, 5, none⟩ = some (.slice B3 O1.length d3) := (blk_cell HO.out.box 5).trans rfl
   have f6 : w1.cell? ⟨w.heap.size, 6, none⟩ = some (.slice B4 B.length d4) := (blk_cell HO.out.box 6).trans rfl
   have f7 : w1.cell? ⟨w.heap.size, 7, none⟩ = some (.bool els) := (blk_cell HO.out.box 7).trans rfl
   have oi : (0 : Int) < (O0.length : Int) := by omega
   have od : decide ((0 : Int) < (O0.length : Int)) = true := decide_eq_true oi
   go_upto_region 5 with fail
   have ezo := Aside0.mk (ez 0)
   clear ez
   clear f0 f1 f2 f3 f4 f5 f6 f7
   clear oi od hcell e0
   rcases first_row HO.out.lq.p2 with ⟨e0, ez⟩ | ⟨gb2, A', c', hA, e0, hcell, ez⟩ | ⟨gb2, gg, c', n, hA, e0, en, hcell, hok, hfr, ⟨xx, hxx⟩, hput⟩
   ·have f0 : w1.cell? ⟨w.heap.size, 0, none⟩ = some (.int .i64 s0) := (blk_cell HO.out.box 0).trans rfl
    have f1 : w1.cell? ⟨w.heap.size, 1, none⟩ = some (.slice B0 N0.length d0) := (blk_cell HO.out.box 1).trans rfl
    have f2 : w1.cell? ⟨w.heap.size, 2, none⟩ = some (.slice (some ⟨gb, 0, none⟩) O0.length d1) := (blk_cell HO.out.box 2).trans rfl
    have f3 : w1.cell? ⟨w.heap.size, 3, none⟩ = some (.int .i64 s1) := (blk_cell HO.out.box 3).trans rfl
    have f4 : w1.cell? ⟨w.heap.size, 4, none⟩ = some (.slice B2 N1.length d2) := (blk_cell HO.out.box 4).trans rfl
    have f5 : w1.cell? ⟨w.heap.size, 5, none⟩ = some (.slice B3 O1.length d3) := (blk_cell HO.out.box 5).trans rfl
    have f6 : w1.cell? ⟨w.heap.size, 6, none⟩ = some (.slice B4 B.length d4) := (blk_cell HO.out.box 6).trans rfl
    have f7 : w1.cell? ⟨w.heap.size, 7, none⟩ = some (.bool els) := (blk_cell HO.out.box 7).trans rfl
    have oi : ¬ (0 : Int) < (N1.length : Int) := by omega
    have od : decide ((0 : Int) < (N1.length : Int)) = false := decide_eq_false oi
    go_wp2_with fail
    have ezn := Aside0.mk (ez 0)
    exact bodyPost_end (v := .tuple #[]) (by simp [results, Tryd.results49, go_sem]) rfl ⟨rfl, by
     try rw [ezo.out]
     try rw [ezn.out]
     try rw [hBn.out]
     exact ⟨HO.out.lq, HO.out.below, HO.out.keep⟩⟩
   ·subst hA
    have f0 : w1.cell? ⟨w.heap.size, 0, none⟩ = some (.int .i64 s0) := (blk_cell HO.out.box 0).trans rfl
    have f1 : w1.cell? ⟨w.heap.size, 1, none⟩ = some (.slice B0 N0.length d0) := (blk_cell HO.out.box 1).trans rfl
    have f2 : w1.cell? ⟨w.heap.size, 2, none⟩ = some (.slice (some ⟨gb, 0, none⟩) O0.length d1) := (blk_cell HO.out.box 2).trans rfl
    have f3 : w1.cell? ⟨w.heap.size, 3, none⟩ = some (.int .i64 s1) := (blk_cell HO.out.box 3).trans rfl
    have f4 : w1.cell? ⟨w.heap.size, 4, none⟩ = some (.slice (some ⟨gb2, 0, none⟩) N1.length d2) := (blk_cell HO.out.box 4).trans rfl
    have f5 : w1.cell? ⟨w.heap.size, 5, none⟩ = some (.slice B3 O1.length d3) := (blk_cell HO.out.box 5).trans rfl
    have f6 : w1.cell? ⟨w.heap.size, 6, none⟩ = some (.slice B4 B.length d4) := (blk_cell HO.out.box 6).trans rfl
    have f7 : w1.cell? ⟨w.heap.size, 7, none⟩ = some (.bool els) := (blk_cell HO.out.box 7).trans rfl
    have oi : (0 : Int) < (N1.length : Int) := by omega
    have od : decide ((0 : Int) < (N1.length : Int)) = true := decide_eq_true oi
    go_wp2_with fail
    have ezn := Aside0.mk (ez 0)
    exact bodyPost_end (v := .tuple #[]) (by simp [results, Tryd.results49, go_sem]) rfl ⟨rfl, by
     try rw [ezo.out]
     try rw [ezn.out]
     try rw [hBn.out]
     exact ⟨HO.out.lq, HO.out.below, HO.out.keep⟩⟩
   ·subst hA
    have f0 : w1.cell? ⟨w.heap.size, 0, none⟩ = some (.int .i64 s0) := (blk_cell HO.out.box 0).trans rfl
    have f1 : w1.cell? ⟨w.heap.size, 1, none⟩ = some (.slice B0 N0.length d0) := (blk_cell HO.out.box 1).trans rfl
    have f2 : w1.cell? ⟨w.heap.size, 2, none⟩ = some (.slice (some ⟨gb, 0, none⟩) O0.length d1) := (blk_cell HO.out.box 2).trans rfl
    have f3 : w1.cell? ⟨w.heap.size, 3, none⟩ = some (.int .i64 s1) := (blk_cell HO.out.box 3).trans rfl
    have f4 : w1.cell? ⟨w.heap.size, 4, none⟩ = some (.slice (some ⟨gb2, 0, none⟩) N1.length d2) := (blk_cell HO.out.box 4).trans rfl
    have f5 : w1.cell? ⟨w.heap.size, 5, none⟩ = some (.slice B3 O1.length d3) := (blk_cell HO.out.box 5).trans rfl
    have f6 : w1.cell? ⟨w.heap.size, 6, none⟩ = some (.slice B4 B.length d4) := (blk_cell HO.out.box 6).trans rfl
    have f7 : w1.cell? ⟨w.heap.size, 7, none⟩ = some (.bool els) := (blk_cell HO.out.box 7).trans rfl
    have oi : (0 : Int) < (N1.length : Int) := by omega
    have od : decide ((0 : Int) < (N1.length : Int)) = true := decide_eq_true oi
    have ni : (0 : Int) < (n : Int) := by omega
    have nd : decide ((0 : Int) < (n : Int)) = true := decide_eq_true ni
    go_wp2_with fail
    replace HO := Aside0.mk (HO.out.put2 hok (.int .i64 0) (hput 0))
    clear hput hfr hxx hok
    exact bodyPost_end (v := .tuple #[]) (by simp [results, Tryd.results49, go_sem]) rfl ⟨rfl, by
     try rw [ezo.out]
     try rw [hBn.out]
     exact ⟨HO.out.lq, HO.out.below, HO.out.keep⟩⟩
  ·subst hA
   have f0 : w1.cell? ⟨w.heap.size, 0, none⟩ = some (.int .i64 s0) := (blk_cell HO.out.box 0).trans rfl
   have f1 : w1.cell? ⟨w.heap.size, 1, none⟩ = some (.slice B0 N0.length d0) := (blk_cell HO.out.box 1).trans rfl
   have f2 : w1.cell? ⟨w.heap.size, 2, none⟩ = some (.slice (some ⟨gb, 0, none⟩) O0.length d1) := (blk_cell HO.out.box 2).trans rfl
   have f3 : w1.cell? ⟨w.heap.size, 3, none⟩ = some (.int .i64 s1) := (blk_cell HO.out.box 3).trans rfl
   have f4 : w1.cell? ⟨w.heap.size, 4, none⟩ = some (.slice B2 N1.length d2) := (blk_cell HO.out.box 4).trans rfl
   have f5 : w1.cell? ⟨w.heap.size, 5, none⟩ = some (.slice B3 O1.length d3) := (blk_cell HO.out.box 5).trans rfl
   have f6 : w1.cell? ⟨w.heap.size, 6, none⟩ = some (.slice B4 B.length d4) := (blk_cell HO.out.box 6).trans rfl
   have f7 : w1.cell? ⟨w.heap.size, 7, none⟩ = some (.bool els) := (blk_cell HO.out.box 7).trans rfl
   have oi : (0 : Int) < (O0.length : Int) := by omega
   have od : decide ((0 : Int) < (O0.length : Int)) = true := decide_eq_true oi
   have ni : (0 : Int) < (n : Int) := by omega
   have nd : decide ((0 : Int) < (n : Int)) = true := decide_eq_true ni
   go_upto_region 5 with fail
   replace HO := Aside0.mk (HO.out.put1 hok (.int .i64 0) (hput 0))
   clear hput hfr hxx hok
   generalize World.setCell _ _ _ = u1 at HO ⊢
   clear f0 f1 f2 f3 f4 f5 f6 f7
   clear oi od ni nd en hcell e0
   rcases first_row HO.out.lq.p2 with ⟨e0, ez⟩ | ⟨gb2, A', c', hA, e0, hcell, ez⟩ | ⟨gb2, gg, c', n, hA, e0, en, hcell, hok, hfr, ⟨xx, hxx⟩, hput⟩
   ·have f0 : u1.cell? ⟨w.heap.size, 0, none⟩ = some (.int .i64 s0) := (blk_cell HO.out.box 0).trans rfl
    have f1 : u1.cell? ⟨w.heap.size, 1, none⟩ = some (.slice B0 N0.length d0) := (blk_cell HO.out.box 1).trans rfl
    have f2 : u1.cell? ⟨w.heap.size, 2, none⟩ = some (.slice (some ⟨gb, 0, none⟩) O0.length d1) := (blk_cell HO.out.box 2).trans rfl
    have f3 : u1.cell? ⟨w.heap.size, 3, none⟩ = some (.int .i64 s1) := (blk_cell HO.out.box 3).trans rfl
    have f4 : u1.cell? ⟨w.heap.size, 4, none⟩ = some (.slice B2 N1.length d2) := (blk_cell HO.out.box 4).trans rfl
    have f5 : u1.cell? ⟨w.heap.size, 5, none⟩ = some (.slice B3 O1.length d3) := (blk_cell HO.out.box 5).trans rfl
    have f6 : u1.cell? ⟨w.heap.size, 6, none⟩ = some (.slice B4 B.length d4) := (blk_cell HO.out.box 6).trans rfl
    have f7 : u1.cell? ⟨w.heap.size, 7, none⟩ = some (.bool els) := (blk_cell HO.out.box 7).trans rfl
    have oi : ¬ (0 : Int) < (N1.length : Int) := by omega
    have od : decide ((0 : Int) < (N1.length : Int)) = false := decide_eq_false oi
    go_wp2_with fail
    have ezn := Aside0.mk (ez 0)
    exact bodyPost_end (v := .tuple #[]) (by simp [results, Tryd.results49, go_sem]) rfl ⟨rfl, by
     try rw [ezn.out]
     try rw [hBn.out]
     exact ⟨HO.out.lq, HO.out.below, HO.out.keep⟩⟩
   ·subst hA
    have f0 : u1.cell? ⟨w.heap.size, 0, none⟩ = some (.int .i64 s0) := (blk_cell HO.out.box 0).trans rfl
    have f1 : u1.cell? ⟨w.heap.size, 1, none⟩ = some (.slice B0 N0.length d0) := (blk_cell HO.out.box 1).trans rfl
    have f2 : u1.cell? ⟨w.heap.size, 2, none⟩ = some (.slice (some ⟨gb, 0, none⟩) O0.length d1) := (blk_cell HO.out.box 2).trans rfl
    have f3 : u1.cell? ⟨w.heap.size, 3, none⟩ = some (.int .i64 s1) := (blk_cell HO.out.box 3).trans rfl
    have f4 : u1.cell? ⟨w.heap.size, 4, none⟩ = some (.slice (some ⟨gb2, 0, none⟩) N1.length d2) := (blk_cell HO.out.box 4).trans rfl
    have f5 : u1.cell? ⟨w.heap.size, 5, none⟩ = some (.slice B3 O1.length d3) := (blk_cell HO.out.box 5).trans rfl
    have f6 : u1.cell? ⟨w.heap.size, 6, none⟩ = some (.slice B4 B.length d4) := (blk_cell HO.out.box 6).trans rfl
    have f7 : u1.cell? ⟨w.heap.size, 7, none⟩ = some (.bool els) := (blk_cell HO.out.box 7).trans rfl
    have oi : (0 : Int) < (N1.length : Int) := by omega
    have od : decide ((0 : Int) < (N1.length : Int)) = true := decide_eq_true oi
    go_wp2_with fail
    have ezn := Aside0.mk (ez 0)
    exact bodyPost_end (v := .tuple #[]) (by simp [results, Tryd.results49, go_sem]) rfl ⟨rfl, by
     try rw [ezn.out]
     try rw [hBn.out]
     exact ⟨HO.out.lq, HO.out.below, HO.out.keep⟩⟩
   ·subst hA
    have f0 : u1.cell? ⟨w.heap.size, 0, none⟩ = some (.int .i64 s0) := (blk_cell HO.out.box 0).trans rfl
    have f1 : u1.cell? ⟨w.heap.size, 1, none⟩ = some (.slice B0 N0.length d0) := (blk_cell HO.out.box 1).trans rfl
    have f2 : u1.cell? ⟨w.heap.size, 2, none⟩ = some (.slice (some ⟨gb, 0, none⟩) O0.length d1) := (blk_cell HO.out.box 2).trans rfl
    have f3 : u1.cell? ⟨w.heap.size, 3, none⟩ = some (.int .i64 s1) := (blk_cell HO.out.box 3).trans rfl
    have f4 : u1.cell? ⟨w.heap.size, 4, none⟩ = some (.slice (some ⟨gb2, 0, none⟩) N1.length d2) := (blk_cell HO.out.box 4).trans rfl
    have f5 : u1.cell? ⟨w.heap.size, 5, none⟩ = some (.slice B3 O1.length d3) := (blk_cell HO.out.box 5).trans rfl
    have f6 : u1.cell? ⟨w.heap.size, 6, none⟩ = some (.slice B4 B.length d4) := (blk_cell HO.out.box 6).trans rfl
    have f7 : u1.cell? ⟨w.heap.size, 7, none⟩ = some (.bool els) := (blk_cell HO.out.box 7).trans rfl
    have oi : (0 : Int) < (N1.length : Int) := by omega
    have od : decide ((0 : Int) < (N1.length : Int)) = true := decide_eq_true oi
    have ni : (0 : Int) < (n : Int) := by omega
    have nd : decide ((0 : Int) < (n : Int)) = true := decide_eq_true ni
    go_wp2_with fail
    replace HO := Aside0.mk (HO.out.put2 hok (.int .i64 0) (hput 0))
    clear hput hfr hxx hok
    exact bodyPost_end (v := .tuple #[]) (by simp [results, Tryd.results49, go_sem]) rfl ⟨rfl, by
     try rw [hBn.out]
     exact ⟨HO.out.lq, HO.out.below, HO.out.keep⟩⟩
 ·obtain ⟨gq, bq, hA, hokq, hcq, hfq, hpq⟩ := first_bool HO.out.lq.p4 hb
  subst hA
  have f0 : w1.cell? ⟨w.heap.size, 0, none⟩ = some (.int .i64 s0) := (blk_cell HO.out.box 0).trans rfl
  have f1 : w1.cell? ⟨w.heap.size, 1, none⟩ = some (.slice B0 N0.length d0) := (blk_cell HO.out.box 1).trans rfl
  have f2 : w1.cell? ⟨w.heap.size, 2, none⟩ = some (.slice B1 O0.length d1) := (blk_cell HO.out.box 2).trans rfl
  have f3 : w1.cell? ⟨w.heap.size, 3, none⟩ = some (.int .i64 s1) := (blk_cell HO.out.box 3).trans rfl
  have f4 : w1.cell? ⟨w.heap.size, 4, none⟩ = some (.slice B2 N1.length d2) := (blk_cell HO.out.box 4).trans rfl
  have f5 : w1.cell? ⟨w.heap.size, 5, none⟩ = some (.slice B3 O1.length d3) := (blk_cell HO.out.box 5).trans rfl
  have f6 : w1.cell? ⟨w.heap.size, 6, none⟩ = some (.slice (some ⟨gq, 0, none⟩) B.length d4) := (blk_cell HO.out.box 6).trans rfl
  have f7 : w1.cell? ⟨w.heap.size, 7, none⟩ = some (.bool els) := (blk_cell HO.out.box 7).trans rfl
  have qi : (0 : Int) < (B.length : Int) := by omega
  have qd : decide ((0 : Int) < (B.length : Int)) = true := decide_eq_true qi
  go_upto_region 2 with fail
  clear f0 f1 f2 f3 f4 f5 f6 f7
  replace HO := Aside0.mk (HO.out.step (below_drew (Below.refl _ w1)))
  refine start_ (n := 9) (S := fun w' => w'.cell? ⟨w.heap.size, 6, none⟩ = some (.slice (some ⟨gq, 0, none⟩) B.length d4) ∧ w'.cell? ⟨gq, 0, none⟩ = some (.bool bq)) (ds := [8]) #[false, false, false, false, false, false, false, false, false] (by kernel_rfl) rfl rfl ⟨(blk_cell HO.out.box 6).trans rfl, hcq⟩ (fun hHeld => ?_)
  refine with_tabW ov.tab2 ov.bits2 (fun HT_ HW_ => ?_)
  have hpr : Kd.R kB 4 (w1.drew.setCell ⟨gq, 0, none⟩ (.bool !bq)) base (rng h4 h5) (.slice (some ⟨gq, 0, none⟩) (bmarks (notB B)).length d4) (bmarks (notB B)) := Kd.R_move hpq (fun k _ => rfl)
  have hfr : w1.drew.frozen? ⟨gq, 0, none⟩ = false := hfq
  have hcr : w1.drew.cell? ⟨gq, 0, none⟩ = some (.bool bq) := hcq
  clear hpq hfq hcq
  generalize w1.drew = wn at HO hHeld hpr hfr hcr ⊢
  refine pure_ (i := 0) (N := some 6) (v := ?_) (a' := ?_) #[true, false, false, false, false, false, false, false, false] rfl rfl (any_of HT_.out (by kernel_rfl)) (fun _ _ _ h => h) (Or.inl ⟨by rfl, ?_⟩) ?_ ?_
  rotate_left
  ·intro w'
   go_simp
   with_reducible rfl
  rotate_left
  ·simp only [Act.put, List.setIfInBounds_toArray, List.set_cons_zero, List.set_cons_succ, i64_w, i32_w]
   rfl
  refine take_ (i := 1) (N := some 7) (v := ?_) (a' := ?_) #[true, true, false, false, false, false, false, false, false] rfl rfl (take_ofW HT_.out HW_.out (by kernel_rfl)) (fun _ _ _ h => h) (Or.inl ⟨by rfl, ?_⟩) hHeld ?_ ?_
  rotate_left
  ·rintro w' ⟨s0, s1⟩
   go_simp
   with_reducible rfl
  rotate_left
  ·simp only [Act.put, List.setIfInBounds_toArray, List.set_cons_zero, List.set_cons_succ, i64_w, i32_w]
   rfl
  refine pure_ (i := 2) (N := some 8) (v := ?_) (a' := ?_) #[true, true, true, false, false, false, false, false, false] rfl rfl (any_of HT_.out (by kernel_rfl)) (fun _ _ _ h => h) (Or.inl ⟨by rfl, ?_⟩) ?_ ?_
  rotate_left
  ·intro w'
   go_simp
   with_reducible rfl
  rotate_left
  ·simp only [Act.put, List.setIfInBounds_toArray, List.set_cons_zero, List.set_cons_succ, i64_w, i32_w]
   rfl
  refine take_ (i := 3) (N := some 9) (v := ?_) (a' := ?_) #[true, true, true, true, false, false, false, false, false] rfl rfl (take_ofW HT_.out HW_.out (by kernel_rfl)) (fun _ _ _ h => h) (Or.inl ⟨by rfl, ?_⟩) hHeld ?_ ?_
  rotate_left
  ·rintro w' ⟨s0, s1⟩
   go_simp
   with_reducible rfl
  rotate_left
  ·simp only [Act.put, List.setIfInBounds_toArray, List.set_cons_zero, List.set_cons_succ, i64_w, i32_w]
   rfl
  refine pure_ (i := 4) (N := some 10) (v := ?_) (a' := ?_) #[true, true, true, true, true, false, false, false, false] rfl rfl (any_of HT_.out (by kernel_rfl)) (fun _ _ _ h => h) (Or.inl ⟨by rfl, ?_⟩) ?_ ?_
  rotate_left
  ·intro w'
   go_simp
   with_reducible rfl
  rotate_left
  ·simp only [Act.put, List.setIfInBounds_toArray, List.set_cons_zero, List.set_cons_succ, i64_w, i32_w]
   rfl
  refine take_ (i := 5) (N := some 11) (v := ?_) (a' := ?_) #[true, true, true, true, true, true, false, false, false] rfl rfl (take_ofW HT_.out HW_.out (by kernel_rfl)) (fun _ _ _ h => h) (Or.inl ⟨by rfl, ?_⟩) hHeld ?_ ?_
  rotate_left
  ·rintro w' ⟨s0, s1⟩
   go_simp
   with_reducible rfl
  rotate_left
  ·simp only [Act.put, List.setIfInBounds_toArray, List.set_cons_zero, List.set_cons_succ, i64_w, i32_w]
   rfl
  refine pure_ (i := 6) (N := some 12) (v := ?_) (a' := ?_) #[true, true, true, true, true, true, true, false, false] rfl rfl (any_of HT_.out (by kernel_rfl)) (fun _ _ _ h => h) (Or.inl ⟨by rfl, ?_⟩) ?_ ?_
  rotate_left
  ·intro w'
   go_simp
   with_reducible rfl
  rotate_left
  ·simp only [Act.put, List.setIfInBounds_toArray, List.set_cons_zero, List.set_cons_succ, i64_w, i32_w]
   rfl
  refine pure_ (i := 7) (N := some 13) (v := ?_) (a' := ?_) #[true, true, true, true, true, true, true, true, false] rfl rfl (any_of HT_.out (by kernel_rfl)) (fun _ _ _ h => h) (Or.inl ⟨by rfl, ?_⟩) ?_ ?_
  rotate_left
  ·intro w'
   go_simp
   with_reducible rfl
  rotate_left
  ·simp only [Act.put, List.setIfInBounds_toArray, List.set_cons_zero, List.set_cons_succ, i64_w, i32_w]
   rfl
  refine last_ (i := 8) (N := none) #[true, true, true, true, true, true, true, true, true] rfl rfl (one_of HT_.out (by kernel_rfl)) (by decide) (fun K hK => ?_)
  refine skip_ (w1 := ?_) (by rfl) rfl ?_ ?_
  rotate_left
  ·go_simp
   rfl
  refine hK.out _ _ ?_
  clear hK K
  refine done_ (done_of HT_.out (by kernel_rfl)) ?_
  go_upto_region 3 with fail
  replace HO := Aside0.mk (HO.out.put4 hokq (.bool !bq) hpr)
  clear hpr hfr hcr hokq hHeld qi qd hb
  generalize World.setCell _ _ _ = w2 at HO ⊢
  rcases first_row HO.out.lq.p1 with ⟨e0, ez⟩ | ⟨gb, A', c', hA, e0, hcell, ez⟩ | ⟨gb, gg, c', n, hA, e0, en, hcell, hok, hfr, ⟨xx, hxx⟩, hput⟩
  ·have f0 : w2.cell? ⟨w.heap.size, 0, none⟩ = some (.int .i64 s0) := (blk_cell HO.out.box 0).trans rfl
   have f1 : w2.cell? ⟨w.heap.size, 1, none⟩ = some (.slice B0 N0.length d0) := (blk_cell HO.out.box 1).trans rfl
   have f2 : w2.cell? ⟨w.heap.size, 2, none⟩ = some (.slice B1 O0.length d1) := (blk_cell HO.out.box 2).trans rfl
   have f3 : w2.cell? ⟨w.heap.size, 3, none⟩ = some (.int .i64 s1) := (blk_cell HO.out.box 3).trans rfl
   have f4 : w2.cell? ⟨w.heap.size, 4, none⟩ = some (.slice B2 N1.length d2) := (blk_cell HO.out.box 4).trans rfl
   have f5 : w2.cell? ⟨w.heap.size, 5, none⟩ = some (.slice B3 O1.length d3) := (blk_cell HO.out.box 5).trans rfl
   have f6 : w2.cell? ⟨w.heap.size, 6, none⟩ = some (.slice (some ⟨gq, 0, none⟩) B.length d4) := (blk_cell HO.out.box 6).trans rfl
   have f7 : w2.cell? ⟨w.heap.size, 7, none⟩ = some (.bool els) := (blk_cell HO.out.box 7).trans rfl
   have oi : ¬ (0 : Int) < (O0.length : Int) := by omega
   have od : decide ((0 : Int) < (O0.length : Int)) = false := decide_eq_false oi
   go_upto_region 5 with fail
   have ezo := Aside0.mk (ez 0)
   clear ez
   clear f0 f1 f2 f3 f4 f5 f6 f7
   clear oi od e0
   rcases first_row HO.out.lq.p2 with ⟨e0, ez⟩ | ⟨gb2, A', c', hA, e0, hcell, ez⟩ | ⟨gb2, gg, c', n, hA, e0, en, hcell, hok, hfr, ⟨xx, hxx⟩, hput⟩
   ·have f0 : w2.cell? ⟨w.heap.size, 0, none⟩ = some (.int .i64 s0) := (blk_cell HO.out.box 0).trans rfl
    have f1 : w2.cell? ⟨w.heap.size, 1, none⟩ = some (.slice B0 N0.length d0) := (blk_cell HO.out.box 1).trans rfl
    have f2 : w2.cell? ⟨w.heap.size, 2, none⟩ = some (.slice B1 O0.length d1) := (blk_cell HO.out.box 2).trans rfl
    have f3 : w2.cell? ⟨w.heap.size, 3, none⟩ = some (.int .i64 s1) := (blk_cell HO.out.box 3).trans rfl
    have f4 : w2.cell? ⟨w.heap.size, 4, none⟩ = some (.slice B2 N1.length d2) := (blk_cell HO.out.box 4).trans rfl
    have f5 : w2.cell? ⟨w.heap.size, 5, none⟩ = some (.slice B3 O1.length d3) := (blk_cell HO.out.box 5).trans rfl
    have f6 : w2.cell? ⟨w.heap.size, 6, none⟩ = some (.slice (some ⟨gq, 0, none⟩) B.length d4) := (blk_cell HO.out.box 6).trans rfl
    have f7 : w2.cell? ⟨w.heap.size, 7, none⟩ = some (.bool els) := (blk_cell HO.out.box 7).trans rfl
    have oi : ¬ (0 : Int) < (N1.length : Int) := by omega
    have od : decide ((0 : Int) < (N1.length : Int)) = false := decide_eq_false oi
    go_wp2_with fail
    have ezn := Aside0.mk (ez 0)
    exact bodyPost_end (v := .tuple #[]) (by simp [results, Tryd.results49, go_sem]) rfl ⟨rfl, by
     try rw [ezo.out]
     try rw [ezn.out]
     exact ⟨HO.out.lq, HO.out.below, HO.out.keep⟩⟩
   ·subst hA
    have f0 : w2.cell? ⟨w.heap.size, 0, none⟩ = some (.int .i64 s0) := (blk_cell HO.out.box 0).trans rfl
    have f1 : w2.cell? ⟨w.heap.size, 1, none⟩ = some (.slice B0 N0.length d0) := (blk_cell HO.out.box 1).trans rfl
    have f2 : w2.cell? ⟨w.heap.size, 2, none⟩ = some (.slice B1 O0.length d1) := (blk_cell HO.out.box 2).trans rfl
    have f3 : w2.cell? ⟨w.heap.size, 3, none⟩ = some (.int .i64 s1) := (blk_cell HO.out.box 3).trans rfl
    have f4 : w2.cell? ⟨w.heap.size, 4, none⟩ = some (.slice (some ⟨gb2, 0, none⟩) N1.length d2) := (blk_cell HO.out.box 4).trans rfl
    have f5 : w2.cell? ⟨w.heap.size, 5, none⟩ = some (.slice B3 O1.length d3) := (blk_cell HO.out.box 5).trans rfl
    have f6 : w2.cell? ⟨w.heap.size, 6, none⟩ = some (.slice (some ⟨gq, 0, none⟩) B.length d4) := (blk_cell HO.out.box 6).trans rfl
    have f7 : w2.cell? ⟨w.heap.size, 7, none⟩ = some (.bool els) := (blk_cell HO.out.box 7).trans rfl
    have oi : (0 : Int) < (N1.length : Int) := by omega
    have od : decide ((0 : Int) < (N1.length : Int)) = true := decide_eq_true oi
    go_wp2_with fail
    have ezn := Aside0.mk (ez 0)
    exact bodyPost_end (v := .tuple #[]) (by simp [results, Tryd.results49, go_sem]) rfl ⟨rfl, by
     try rw [ezo.out]
     try rw [ezn.out]
     exact ⟨HO.out.lq, HO.out.below, HO.out.keep⟩⟩
   ·subst hA
    have f0 : w2.cell? ⟨w.heap.size, 0, none⟩ = some (.int .i64 s0) := (blk_cell HO.out.box 0).trans rfl
    have f1 : w2.cell? ⟨w.heap.size, 1, none⟩ = some (.slice B0 N0.length d0) := (blk_cell HO.out.box 1).trans rfl
    have f2 : w2.cell? ⟨w.heap.size, 2, none⟩ = some (.slice B1 O0.length d1) := (blk_cell HO.out.box 2).trans rfl
    have f3 : w2.cell? ⟨w.heap.size, 3, none⟩ = some (.int .i64 s1) := (blk_cell HO.out.box 3).trans rfl
    have f4 : w2.cell? ⟨w.heap.size, 4, none⟩ = some (.slice (some ⟨gb2, 0, none⟩) N1.length d2) := (blk_cell HO.out.box 4).trans rfl
    have f5 : w2.cell? ⟨w.heap.size, 5, none⟩ = some (.slice B3 O1.length d3) := (blk_cell HO.out.box 5).trans rfl
    have f6 : w2.cell? ⟨w.heap.size, 6, none⟩ = some (.slice (some ⟨gq, 0, none⟩) B.length d4) := (blk_cell HO.out.box 6).trans rfl
    have f7 : w2.cell? ⟨w.heap.size, 7, none⟩ = some (.bool els) := (blk_cell HO.out.box 7).trans rfl
    have oi : (0 : Int) < (N1.length : Int) := by omega
    have od : decide ((0 : Int) < (N1.length : Int)) = true := decide_eq_true oi
    have ni : (0 : Int) < (n : Int) := by omega
    have nd : decide ((0 : Int) < (n : Int)) = true := decide_eq_true ni
    go_wp2_with fail
    replace HO := Aside0.mk (HO.out.put2 hok (.int .i64 0) (hput 0))
    clear hput hfr hxx hok
    exact bodyPost_end (v := .tuple #[]) (by simp [results, Tryd.results49, go_sem]) rfl ⟨rfl, by
     try rw [ezo.out]
     exact ⟨HO.out.lq, HO.out.below, HO.out.keep⟩⟩
  ·subst hA
   have f0 : w2.cell? ⟨w.heap.size, 0, none⟩ = some (.int .i64 s0) := (blk_cell HO.out.box 0).trans rfl
   have f1 : w2.cell? ⟨w.heap.size, 1, none⟩ = some (.slice B0 N0.length d0) := (blk_cell HO.out.box 1).trans rfl
   have f2 : w2.cell? ⟨w.heap.size, 2, none⟩ = some (.slice (some ⟨gb, 0, none⟩) O0.length d1) := (blk_cell HO.out.box 2).trans rfl
   have f3 : w2.cell? ⟨w.heap.size, 3, none⟩ = some (.int .i64 s1) := (blk_cell HO.out.box 3).trans rfl
   have f4 : w2.cell? ⟨w.heap.size, 4, none⟩ = some (.slice B2 N1.length d2) := (blk_cell HO.out.box 4).trans rfl
   have f5 : w2.cell? ⟨w.heap.size, 5, none⟩ = some (.slice B3 O1.length d3) := (blk_cell HO.out.box 5).trans rfl
   have f6 : w2.cell? ⟨w.heap.size, 6, none⟩ = some (.slice (some ⟨gq, 0, none⟩) B.length d4) := (blk_cell HO.out.box 6).trans rfl
   have f7 : w2.cell? ⟨w.heap.size, 7, none⟩ = some (.bool els) := (blk_cell HO.out.box 7).trans rfl
   have oi : (0 : Int) < (O0.length : Int) := by omega
   have od : decide ((0 : Int) < (O0.length : Int)) = true := decide_eq_true oi
   go_upto_region 5 with fail
   have ezo := Aside0.mk (ez 0)
   clear ez
   clear f0 f1 f2 f3 f4 f5 f6 f7
   clear oi od hcell e0
   rcases first_row HO.out.lq.p2 with ⟨e0, ez⟩ | ⟨gb2, A', c', hA, e0, hcell, ez⟩ | ⟨gb2, gg, c', n, hA, e0, en, hcell, hok, hfr, ⟨xx, hxx⟩, hput⟩
   ·have f0 : w2.cell? ⟨w.heap.size, 0, none⟩ = some (.int .i64 s0) := (blk_cell HO.out.box 0).trans rfl
    have f1 : w2.cell? ⟨w.heap.size, 1, none⟩ = some (.slice B0 N0.length d0) := (blk_cell HO.out.box 1).trans rfl
    have f2 : w2.cell? ⟨w.heap.size, 2, none⟩ = some (.slice (some ⟨gb, 0, none⟩) O0.length d1) := (blk_cell HO.out.box 2).trans rfl
    have f3 : w2.cell? ⟨w.heap.size, 3, none⟩ = some (.int .i64 s1) := (blk_cell HO.out.box 3).trans rfl
    have f4 : w2.cell? ⟨w.heap.size, 4, none⟩ = some (.slice B2 N1.length d2) := (blk_cell HO.out.box 4).trans rfl
    have f5 : w2.cell? ⟨w.heap.size, 5, none⟩ = some (.slice B3 O1.length d3) := (blk_cell HO.out.box 5).trans rfl
    have f6 : w2.cell? ⟨w.heap.size, 6, none⟩ = some (.slice (some ⟨gq, 0, none⟩) B.length d4) := (blk_cell HO.out.box 6).trans rfl
    have f7 : w2.cell? ⟨w.heap.size, 7, none⟩ = some (.bool els) := (blk_cell HO.out.box 7).trans rfl
    have oi : ¬ (0 : Int) < (N1.length : Int) := by omega
    have od : decide ((0 : Int) < (N1.length : Int)) = false := decide_eq_false oi
    go_wp2_with fail
    have ezn := Aside0.mk (ez 0)
    exact bodyPost_end (v := .tuple #[]) (by simp [results, Tryd.results49, go_sem]) rfl ⟨rfl, by
     try rw [ezo.out]
     try rw [ezn.out]
     exact ⟨HO.out.lq, HO.out.below, HO.out.keep⟩⟩
   ·subst hA
    have f0 : w2.cell? ⟨w.heap.size, 0, none⟩ = some (.int .i64 s0) := (blk_cell HO.out.box 0).trans rfl
    have f1 : w2.cell? ⟨w.heap.size, 1, none⟩ = some (.slice B0 N0.length d0) := (blk_cell HO.out.box 1).trans rfl
    have f2 : w2.cell? ⟨w.heap.size, 2, none⟩ = some (.slice (some ⟨gb, 0, none⟩) O0.length d1) := (blk_cell HO.out.box 2).trans rfl
    have f3 : w2.cell? ⟨w.heap.size, 3, none⟩ = some (.int .i64 s1) := (blk_cell HO.out.box 3).trans rfl
    have f4 : w2.cell? ⟨w.heap.size, 4, none⟩ = some (.slice (some ⟨gb2, 0, none⟩) N1.length d2) := (blk_cell HO.out.box 4).trans rfl
    have f5 : w2.cell? ⟨w.heap.size, 5, none⟩ = some (.slice B3 O1.length d3) := (blk_cell HO.out.box 5).trans rfl
    have f6 : w2.cell? ⟨w.heap.size, 6, none⟩ = some (.slice (some ⟨gq, 0, none⟩) B.length d4) := (blk_cell HO.out.box 6).trans rfl
    have f7 : w2.cell? ⟨w.heap.size, 7, none⟩ = some (.bool els) := (blk_cell HO.out.box 7).trans rfl
    have oi : (0 : Int) < (N1.length : Int) := by omega
    have od : decide ((0 : Int) < (N1.length : Int)) = true := decide_eq_true oi
    go_wp2_with fail
    have ezn := Aside0.mk (ez 0)
    exact bodyPost_end (v := .tuple #[]) (by simp [results, Tryd.results49, go_sem]) rfl ⟨rfl, by
     try rw [ezo.out]
     try rw [ezn.out]
     exact ⟨HO.out.lq, HO.out.below, HO.out.keep⟩⟩
   ·subst hA
    have f0 : w2.cell? ⟨w.heap.size, 0, none⟩ = some (.int .i64 s0) := (blk_cell HO.out.box 0).trans rfl
    have f1 : w2.cell? ⟨w.heap.size, 1, none⟩ = some (.slice B0 N0.length d0) := (blk_cell HO.out.box 1).trans rfl
    have f2 : w2.cell? ⟨w.heap.size, 2, none⟩ = some (.slice (some ⟨gb, 0, none⟩) O0.length d1) := (blk_cell HO.out.box 2).trans rfl
    have f3 : w2.cell? ⟨w.heap.size, 3, none⟩ = some (.int .i64 s1) := (blk_cell HO.out.box 3).trans rfl
    have f4 : w2.cell? ⟨w.heap.size, 4, none⟩ = some (.slice (some ⟨gb2, 0, none⟩) N1.length d2) := (blk_cell HO.out.box 4).trans rfl
    have f5 : w2.cell? ⟨w.heap.size, 5, none⟩ = some (.slice B3 O1.length d3) := (blk_cell HO.out.box 5).trans rfl
    have f6 : w2.cell? ⟨w.heap.size, 6, none⟩ = some (.slice (some ⟨gq, 0, none⟩) B.length d4) := (blk_cell HO.out.box 6).trans rfl
    have f7 : w2.cell? ⟨w.heap.size, 7, none⟩ = some (.bool els) := (blk_cell HO.out.box 7).trans rfl
    have oi : (0 : Int) < (N1.length : Int) := by omega
    have od : decide ((0 : Int) < (N1.length : Int)) = true := decide_eq_true oi
    have ni : (0 : Int) < (n : Int) := by omega
    have nd : decide ((0 : Int) < (n : Int)) = true := decide_eq_true ni
    go_wp2_with fail
    replace HO := Aside0.mk (HO.out.put2 hok (.int .i64 0) (hput 0))
    clear hput hfr hxx hok
    exact bodyPost_end (v := .tuple #[]) (by simp [results, Tryd.results49, go_sem]) rfl ⟨rfl, by
     try rw [ezo.out]
     exact ⟨HO.out.lq, HO.out.below, HO.out.keep⟩⟩
  ·subst hA
   have f0 : w2.cell? ⟨w.heap.size, 0, none⟩ = some (.int .i64 s0) := (blk_cell HO.out.box 0).trans rfl
   have f1 : w2.cell? ⟨w.heap.size, 1, none⟩ = some (.slice B0 N0.length d0) := (blk_cell HO.out.box 1).trans rfl
   have f2 : w2.cell? ⟨w.heap.size, 2, none⟩ = some (.slice (some ⟨gb, 0, none⟩) O0.length d1) := (blk_cell HO.out.box 2).trans rfl
   have f3 : w2.cell? ⟨w.heap.size, 3, none⟩ = some (.int .i64 s1) := (blk_cell HO.out.box 3).trans rfl
   have f4 : w2.cell? ⟨w.heap.size, 4, none⟩ = some (.slice B2 N1.length d2) := (blk_cell HO.out.box 4).trans rfl
   have f5 : w2.cell? ⟨w.heap.size, 5, none⟩ = some (.slice B3 O1.length d3) := (blk_cell HO.out.box 5).trans rfl
   have f6 : w2.cell? ⟨w.heap.size, 6, none⟩ = some (.slice (some ⟨gq, 0, none⟩) B.length d4) := (blk_cell HO.out.box 6).trans rfl
   have f7 : w2.cell? ⟨w.heap.size, 7, none⟩ = some (.bool els) := (blk_cell HO.out.box 7).trans rfl
   have oi : (0 : Int) < (O0.length : Int) := by omega
   have od : decide ((0 : Int) < (O0.length : Int)) = true := decide_eq_true oi
   have ni : (0 : Int) < (n : Int) := by omega
   have nd : decide ((0 : Int) < (n : Int)) = true := decide_eq_true ni
   go_upto_region 5 with fail
   replace HO := Aside0.mk (HO.out.put1 hok (.int .i64 0) (hput 0))
   clear hput hfr hxx hok
   generalize World.setCell _ _ _ = u2 at HO ⊢
   clear f0 f1 f2 f3 f4 f5 f6 f7
   clear oi od ni nd en hcell e0
   rcases first_row HO.out.lq.p2 with ⟨e0, ez⟩ | ⟨gb2, A', c', hA, e0, hcell, ez⟩ | ⟨gb2, gg, c', n, hA, e0, en, hcell, hok, hfr, ⟨xx, hxx⟩, hput⟩
   ·have f0 : u2.cell? ⟨w.heap.size, 0, none⟩ = some (.int .i64 s0) := (blk_cell HO.out.box 0).trans rfl
    have f1 : u2.cell? ⟨w.heap.size, 1, none⟩ = some (.slice B0 N0.length d0) := (blk_cell HO.out.box 1).trans rfl
    have f2 : u2.cell? ⟨w.heap.size, 2, none⟩ = some (.slice (some ⟨gb, 0, none⟩) O0.length d1) := (blk_cell HO.out.box 2).trans rfl
    have f3 : u2.cell? ⟨w.heap.size, 3, none⟩ = some (.int .i64 s1) := (blk_cell HO.out.box 3).trans rfl
    have f4 : u2.cell? ⟨w.heap.size, 4, none⟩ = some (.slice B2 N1.length d2) := (blk_cell HO.out.box 4).trans rfl
    have f5 : u2.cell? ⟨w.heap.size, 5, none⟩ = some (.slice B3 O1.length d3) := (blk_cell HO.out.box 5).trans rfl
    have f6 : u2.cell? ⟨w.heap.size, 6, none⟩ = some (.slice (some ⟨gq, 0, none⟩) B.length d4) := (blk_cell HO.out.box 6).trans rfl
    have f7 : u2.cell? ⟨w.heap.size, 7, none⟩ = some (.bool els) := (blk_cell HO.out.box 7).trans rfl
    have oi : ¬ (0 : Int) < (N1.length : Int) := by omega
    have od : decide ((0 : Int) < (N1.length : Int)) = false := decide_eq_false oi
    go_wp2_with fail
    have ezn := Aside0.mk (ez 0)
    exact bodyPost_end (v := .tuple #[]) (by simp [results, Tryd.results49, go_sem]) rfl ⟨rfl, by
     try rw [ezn.out]
     exact ⟨HO.out.lq, HO.out.below, HO.out.keep⟩⟩
   ·subst hA
    have f0 : u2.cell? ⟨w.heap.size, 0, none⟩ = some (.int .i64 s0) := (blk_cell HO.out.box 0).trans rfl
    have f1 : u2.cell? ⟨w.heap.size, 1, none⟩ = some (.slice B0 N0.length d0) := (blk_cell HO.out.box 1).trans rfl
    have f2 : u2.cell? ⟨w.heap.size, 2, none⟩ = some (.slice (some ⟨gb, 0, none⟩) O0.length d1) := (blk_cell HO.out.box 2).trans rfl
    have f3 : u2.cell? ⟨w.heap.size, 3, none⟩ = some (.int .i64 s1) := (blk_cell HO.out.box 3).trans rfl
    have f4 : u2.cell? ⟨w.heap.size, 4, none⟩ = some (.slice (some ⟨gb2, 0, none⟩) N1.length d2) := (blk_cell HO.out.box 4).trans rfl
    have f5 : u2.cell? ⟨w.heap.size, 5, none⟩ = some (.slice B3 O1.length d3) := (blk_cell HO.out.box 5).trans rfl
    have f6 : u2.cell? ⟨w.heap.size, 6, none⟩ = some (.slice (some ⟨gq, 0, none⟩) B.length d4) := (blk_cell HO.out.box 6).trans rfl
    have f7 : u2.cell? ⟨w.heap.size, 7, none⟩ = some (.bool els) := (blk_cell HO.out.box 7).trans rfl
    have oi : (0 : Int) < (N1.length : Int) := by omega
    have od : decide ((0 : Int) < (N1.length : Int)) = true := decide_eq_true oi
    go_wp2_with fail
    have ezn := Aside0.mk (ez 0)
    exact bodyPost_end (v := .tuple #[]) (by simp [results, Tryd.results49, go_sem]) rfl ⟨rfl, by
     try rw [ezn.out]
     exact ⟨HO.out.lq, HO.out.below, HO.out.keep⟩⟩
   ·subst hA
    have f0 : u2.cell? ⟨w.heap.size, 0, none⟩ = some (.int .i64 s0) := (blk_cell HO.out.box 0).trans rfl
    have f1 : u2.cell? ⟨w.heap.size, 1, none⟩ = some (.slice B0 N0.length d0) := (blk_cell HO.out.box 1).trans rfl
    have f2 : u2.cell? ⟨w.heap.size, 2, none⟩ = some (.slice (some ⟨gb, 0, none⟩) O0.length d1) := (blk_cell HO.out.box 2).trans rfl
    have f3 : u2.cell? ⟨w.heap.size, 3, none⟩ = some (.int .i64 s1) := (blk_cell HO.out.box 3).trans rfl
    have f4 : u2.cell? ⟨w.heap.size, 4, none⟩ = some (.slice (some ⟨gb2, 0, none⟩) N1.length d2) := (blk_cell HO.out.box 4).trans rfl
    have f5 : u2.cell? ⟨w.heap.size, 5, none⟩ = some (.slice B3 O1.length d3) := (blk_cell HO.out.box 5).trans rfl
    have f6 : u2.cell? ⟨w.heap.size, 6, none⟩ = some (.slice (some ⟨gq, 0, none⟩) B.length d4) := (blk_cell HO.out.box 6).trans rfl
    have f7 : u2.cell? ⟨w.heap.size, 7, none⟩ = some (.bool els) := (blk_cell HO.out.box 7).trans rfl
    have oi : (0 : Int) < (N1.length : Int) := by omega
    have od : decide ((0 : Int) < (N1.length : Int)) = true := decide_eq_true oi
    have ni : (0 : Int) < (n : Int) := by omega
    have nd : decide ((0 : Int) < (n : Int)) = true := decide_eq_true ni
    go_wp2_with fail
    replace HO := Aside0.mk (HO.out.put2 hok (.int .i64 0) (hput 0))
    clear hput hfr hxx hok
    exact bodyPost_end (v := .tuple #[]) (by simp [results, Tryd.results49, go_sem]) rfl ⟨rfl, by
     exact ⟨HO.out.lq, HO.out.below, HO.out.keep⟩⟩
end Go.Proofs.YtfonajakaimnoaaDoor.C14

namespace Go.Proofs.YtfonajakaimnoaaDoor.C14
open Go.RowKit Go.Proofs.YtfonajakaimnoaaDoorW.PrintWords Go.Proofs.YtfonajakaimnoaaDoorW.PrintLast Go.Proofs.YtfonajakaimnoaaDoorW.PrintMore Go.Proofs.YtfonajakaimnoaaDoor.Lib Lent Go.Proofs.YtfonajakaimnoaaDoor.Fn Go.Proofs.YtfonajakaimnoaaDoor.C11
set_option linter.unusedVariables false
set_option linter.unusedSimpArgs false
attribute [local go_sem] max2_int min2_int max_two min_two max_three min_three max_four min_four
set_option maxHeartbeats 4000000 in
set_option maxRecDepth 100000 in
theorem reads_calls {s0 : Int} {A0 : Option Addr} {c0 : Nat} {N0 : LL} {A1 : Option Addr} {c1 : Nat} {O0 : LL} {s1 : Int} {A2 : Option Addr} {c2 : Nat} {N1 : LL} {A3 : Option Addr} {c3 : Nat} {O1 : LL} {A4 : Option Addr} {c4 : Nat} {B : List Bool} {els : Bool} {A5 : Option Addr} {c5 : Nat} {word : List Int} {w : World} {a0 a1 a2 : Addr} (h : Cp A0 c0 N0 A1 c1 O0 A2 c2 N1 A3 c3 O1 A4 c4 B w) (hS : Sen a0 a1 a2 w) (hw : Kd.C kI w A5 word.length word ∧ word.length ≤ c5) (hl : word.length ≤ 17592186043904) (sy : Int) :
  Calls Tryd.prog 48 #[.agg #[.int .i64 s0, .slice A0 N0.length c0, .slice A1 O0.length c1, .int .i64 s1, .slice A2 N1.length c2, .slice A3 O1.length c3, .slice A4 B.length c4, .bool els], .int .i64 sy, .slice A5 word.length c5] w fun e w' => e = .returned (.bool true) ∧ Below w.heap.size w w' := by
 have hu := Tryd.underlying60
 have H := Aside0.mk h
 have HS := Aside0.mk hS
 have HW := Aside0.mk hw
 have HL := Aside0.mk hl
 clear h hS hw hl
 obtain ⟨qf, hqf⟩ : ∃ q : Int, q = if pokB s0 N0 O0 s1 N1 O1 B sy then 0 else 1 := ⟨_, rfl⟩
 have QF := Aside0.mk hqf
 have QF1 : Aside0 (qf = 0 ∨ qf = 1) := ⟨by rw [hqf]; exact chk_code⟩
 clear hqf
 obtain ⟨X, hX⟩ : ∃ X : List Int, X = (decR s0 N0 O0 s1 N1 O1 B word).1 := ⟨_, rfl⟩
 obtain ⟨qx, hqx⟩ : ∃ q : Int, q = (decR s0 N0 O0 s1 N1 O1 B word).2 := ⟨_, rfl⟩
 obtain ⟨Y, hY⟩ : ∃ Y : List Int, Y = (brkR s0 N0 O0 s1 N1 O1 B els word).1 := ⟨_, rfl⟩
 obtain ⟨qy, hqy⟩ : ∃ q : Int, q = (brkR s0 N0 O0 s1 N1 O1 B els word).2 := ⟨_, rfl⟩
 have QX1 : Aside0 (qx = 0 ∨ qx = 1) := ⟨by rw [hqx]; exact dec_code⟩
 have QY1 : Aside0 (qy = 0 ∨ qy = 1) := ⟨by rw [hqy]; exact brk_code⟩
 have EX := Aside0.mk hX
 have QX := Aside0.mk hqx
 have EY := Aside0.mk hY
 have QY := Aside0.mk hqy
 clear hX hqx hY hqy
 obtain ⟨sz, hsz⟩ : ∃ z : Int, z = wrap64 ((N0.length : Int) + (N1.length : Int)) := ⟨_, rfl⟩
 have SZ := Aside0.mk hsz
 clear hsz
 go_enter Tryd.func48, Tryd.ntmps48
 go_wp2_with fail
 have HB := Aside0.mk (below_alloc (Below.refl w.heap.size w) (.cells #[.int .i64 s0, .slice A0 N0.length c0, .slice A1 O0.length c1, .int .i64 s1, .slice A2 N1.length c2, .slice A3 O1.length c3, .slice A4 B.length c4, .bool els] 60))
 have HX := Aside0.mk (heap_alloc_new w (.cells #[.int .i64 s0, .slice A0 N0.length c0, .slice A1 O0.length c1, .int .i64 s1, .slice A2 N1.length c2, .slice A3 O1.length c3, .slice A4 B.length c4, .bool els] 60))
 refine (dchk_c (els := els) (s0 := s0) (s1 := s1) (H.out.below HB.out) sy).mono ?_
 rintro e w1 ⟨he, hb⟩
 rw [← QF.out] at he
 subst he
 replace HX := Aside0.mk ((hb.block _ (blk_lt HX.out)).trans HX.out)
 replace HB := Aside0.mk (below_step HB.out hb)
 clear hb
 have f0 : w1.cell? ⟨w.heap.size, 0, none⟩ = some (.int .i64 s0) := (blk_cell HX.out 0).trans rfl
 have f1 : w1.cell? ⟨w.heap.size, 1, none⟩ = some (.slice A0 N0.length c0) := (blk_cell HX.out 1).trans rfl
 have f2 : w1.cell? ⟨w.heap.size, 2, none⟩ = some (.slice A1 O0.length c1) := (blk_cell HX.out 2).trans rfl
 have f3 : w1.cell? ⟨w.heap.size, 3, none⟩ = some (.int .i64 s1) := (blk_cell HX.out 3).trans rfl
 have f4 : w1.cell? ⟨w.heap.size, 4, none⟩ = some (.slice A2 N1.length c2) := (blk_cell HX.out 4).trans rfl
 have f5 : w1.cell? ⟨w.heap.size, 5, none⟩ = some (.slice A3 O1.length c3) := (blk_cell HX.out 5).trans rfl
 have f6 : w1.cell? ⟨w.heap.size, 6, none⟩ = some (.slice A4 B.length c4) := (blk_cell HX.out 6).trans rfl
 have f7 : w1.cell? ⟨w.heap.size, 7, none⟩ = some (.bool els) := (blk_cell HX.out 7).trans rfl
 go_wp2_with fail
 refine (ddec_c (els := els) (s0 := s0) (s1 := s1) (H.out.below HB.out) ⟨Kd.C_below HW.out.1 HB.out, HW.out.2⟩ HL.out).mono ?_
 rintro e w2 ⟨v, he, ho, hb⟩
 rw [← QX.out] at he
 rw [← EX.out] at ho
 obtain ⟨Ax, cx, rfl⟩ := Kd.R_slice ho
 subst he
 have Kx := Aside0.mk (And.intro (Kd.R_reads' ho).2.2 (Kd.R_reads' ho).2.1)
 clear ho
 replace HX := Aside0.mk ((hb.block _ (blk_lt HX.out)).trans HX.out)
 replace HB := Aside0.mk (below_step HB.out hb)
 clear hb
 try clear f0 f1 f2 f3 f4 f5 f6 f7
 have f0 : w2.cell? ⟨w.heap.size, 0, none⟩ = some (.int .i64 s0) := (blk_cell HX.out 0).trans rfl
 have f1 : w2.cell? ⟨w.heap.size, 1, none⟩ = some (.slice A0 N0.length c0) := (blk_cell HX.out 1).trans rfl
 have f2 : w2.cell? ⟨w.heap.size, 2, none⟩ = some (.slice A1 O0.length c1) := (blk_cell HX.out 2).trans rfl
 have f3 : w2.cell? ⟨w.heap.size, 3, none⟩ = some (.int .i64 s1) := (blk_cell HX.out 3).trans rfl
 have f4 : w2.cell? ⟨w.heap.size, 4, none⟩ = some (.slice A2 N1.length c2) := (blk_cell HX.out 4).trans rfl
 have f5 : w2.cell? ⟨w.heap.size, 5, none⟩ = some (.slice A3 O1.length c3) := (blk_cell HX.out 5).trans rfl
 have f6 : w2.cell? ⟨w.heap.size, 6, none⟩ = some (.slice A4 B.length c4) := (blk_cell HX.out 6).trans rfl
 have f7 : w2.cell? ⟨w.heap.size, 7, none⟩ = some (.bool els) := (blk_cell HX.out 7).trans rfl
 go_wp2_with fail
 refine (dbrk_c (els := els) (s0 := s0) (s1 := s1) (H.out.below HB.out) ⟨Kd.C_below HW.out.1 HB.out, HW.out.2⟩ HL.out).mono ?_
 rintro e w3 ⟨v, he, ho, hb⟩
 rw [← QY.out] at he
 rw [← EY.out] at ho
 obtain ⟨Ay, cy, rfl⟩ := Kd.R_slice ho
 subst he
 have Ky := Aside0.mk (And.intro (Kd.R_reads' ho).2.2 (Kd.R_reads' ho).2.1)
 clear ho
 replace Kx := Aside0.mk (And.intro (Kd.C_below Kx.out.1 hb) Kx.out.2)
 replace HX := Aside0.mk ((hb.block _ (blk_lt HX.out)).trans HX.out)
 replace HB := Aside0.mk (below_step HB.out hb)
 clear hb
 try clear f0 f1 f2 f3 f4 f5 f6 f7
 have f0 : w3.cell? ⟨w.heap.size, 0, none⟩ = some (.int .i64 s0) := (blk_cell HX.out 0).trans rfl
 have f1 : w3.cell? ⟨w.heap.size, 1, none⟩ = some (.slice A0 N0.length c0) := (blk_cell HX.out 1).trans rfl
 have f2 : w3.cell? ⟨w.heap.size, 2, none⟩ = some (.slice A1 O0.length c1) := (blk_cell HX.out 2).trans rfl
 have f3 : w3.cell? ⟨w.heap.size, 3, none⟩ = some (.int .i64 s1) := (blk_cell HX.out 3).trans rfl
 have f4 : w3.cell? ⟨w.heap.size, 4, none⟩ = some (.slice A2 N1.length c2) := (blk_cell HX.out 4).trans rfl
 have f5 : w3.cell? ⟨w.heap.size, 5, none⟩ = some (.slice A3 O1.length c3) := (blk_cell HX.out 5).trans rfl
 have f6 : w3.cell? ⟨w.heap.size, 6, none⟩ = some (.slice A4 B.length c4) := (blk_cell HX.out 6).trans rfl
 have f7 : w3.cell? ⟨w.heap.size, 7, none⟩ = some (.bool els) := (blk_cell HX.out 7).trans rfl
 go_wp2_with fail
 refine (dsize_c (els := els) (s0 := s0) (s1 := s1) (H.out.below HB.out)).mono ?_
 rintro e w4 ⟨he, hb⟩
 rw [← SZ.out] at he
 subst he
 replace Kx := Aside0.mk (And.intro (Kd.C_below Kx.out.1 hb) Kx.out.2)
 replace Ky := Aside0.mk (And.intro (Kd.C_below Ky.out.1 hb) Ky.out.2)
 replace HX := Aside0.mk ((hb.block _ (blk_lt HX.out)).trans HX.out)
 replace HB := Aside0.mk (below_step HB.out hb)
 clear hb
 try clear f0 f1 f2 f3 f4 f5 f6 f7
 have f0 : w4.cell? ⟨w.heap.size, 0, none⟩ = some (.int .i64 s0) := (blk_cell HX.out 0).trans rfl
 have f1 : w4.cell? ⟨w.heap.size, 1, none⟩ = some (.slice A0 N0.length c0) := (blk_cell HX.out 1).trans rfl
 have f2 : w4.cell? ⟨w.heap.size, 2, none⟩ = some (.slice A1 O0.length c1) := (blk_cell HX.out 2).trans rfl
 have f3 : w4.cell? ⟨w.heap.size, 3, none⟩ = some (.int .i64 s1) := (blk_cell HX.out 3).trans rfl
 have f4 : w4.cell? ⟨w.heap.size, 4, none⟩ = some (.slice A2 N1.length c2) := (blk_cell HX.out 4).trans rfl
 have f5 : w4.cell? ⟨w.heap.size, 5, none⟩ = some (.slice A3 O1.length c3) := (blk_cell HX.out 5).trans rfl
 have f6 : w4.cell? ⟨w.heap.size, 6, none⟩ = some (.slice A4 B.length c4) := (blk_cell HX.out 6).trans rfl
 have f7 : w4.cell? ⟨w.heap.size, 7, none⟩ = some (.bool els) := (blk_cell HX.out 7).trans rfl
 go_wp2_with fail
 refine (pchk_c (els := els) (s0 := s0) (s1 := s1) (H.out.below HB.out) (HS.out.step HB.out) sy).mono ?_
 rintro e w5 ⟨he, hb⟩
 rw [← QF.out] at he
 subst he
 replace Kx := Aside0.mk (And.intro (Kd.C_below Kx.out.1 hb) Kx.out.2)
 replace Ky := Aside0.mk (And.intro (Kd.C_below Ky.out.1 hb) Ky.out.2)
 replace HX := Aside0.mk ((hb.block _ (blk_lt HX.out)).trans HX.out)
 replace HB := Aside0.mk (below_step HB.out hb)
 clear hb
 try clear f0 f1 f2 f3 f4 f5 f6 f7
 have f0 : w5.cell? ⟨w.heap.size, 0, none⟩ = some (.int .i64 s0) := (blk_cell HX.out 0).trans rfl
 have f1 : w5.cell? ⟨w.heap.size, 1, none⟩ = some (.slice A0 N0.length c0) := (blk_cell HX.out 1).trans rfl
 have f2 : w5.cell? ⟨w.heap.size, 2, none⟩ = some (.slice A1 O0.length c1) := (blk_cell HX.out 2).trans rfl
 have f3 : w5.cell? ⟨w.heap.size, 3, none⟩ = some (.int .i64 s1) := (blk_cell HX.out 3).trans rfl
 have f4 : w5.cell? ⟨w.heap.size, 4, none⟩ = some (.slice A2 N1.length c2) := (blk_cell HX.out 4).trans rfl
 have f5 : w5.cell? ⟨w.heap.size, 5, none⟩ = some (.slice A3 O1.length c3) := (blk_cell HX.out 5).trans rfl
 have f6 : w5.cell? ⟨w.heap.size, 6, none⟩ = some (.slice A4 B.length c4) := (blk_cell HX.out 6).trans rfl
 have f7 : w5.cell? ⟨w.heap.size, 7, none⟩ = some (.bool els) := (blk_cell HX.out 7).trans rfl
 go_wp2_with fail
 refine (pdec_c (els := els) (s0 := s0) (s1 := s1) (H.out.below HB.out) (HS.out.step HB.out) ⟨Kd.C_below HW.out.1 HB.out, HW.out.2⟩ HL.out).mono ?_
 rintro e w6 ⟨v, he, ho, hb⟩
 rw [← QX.out] at he
 rw [← EX.out] at ho
 obtain ⟨Ap, cp, rfl⟩ := Kd.R_slice ho
 subst he
 have Kp := Aside0.mk (And.intro (Kd.R_reads' ho).2.2 (Kd.R_reads' ho).2.1)
 clear ho
 replace Kx := Aside0.mk (And.intro (Kd.C_below Kx.out.1 hb) Kx.out.2)
 replace Ky := Aside0.mk (And.intro (Kd.C_below Ky.out.1 hb) Ky.out.2)
 replace HX := Aside0.mk ((hb.block _ (blk_lt HX.out)).trans HX.out)
 replace HB := Aside0.mk (below_step HB.out hb)
 clear hb
 try clear f0 f1 f2 f3 f4 f5 f6 f7
 have f0 : w6.cell? ⟨w.heap.size, 0, none⟩ = some (.int .i64 s0) := (blk_cell HX.out 0).trans rfl
 have f1 : w6.cell? ⟨w.heap.size, 1, none⟩ = some (.slice A0 N0.length c0) := (blk_cell HX.out 1).trans rfl
 have f2 : w6.cell? ⟨w.heap.size, 2, none⟩ = some (.slice A1 O0.length c1) := (blk_cell HX.out 2).trans rfl
 have f3 : w6.cell? ⟨w.heap.size, 3, none⟩ = some (.int .i64 s1) := (blk_cell HX.out 3).trans rfl
 have f4 : w6.cell? ⟨w.heap.size, 4, none⟩ = some (.slice A2 N1.length c2) := (blk_cell HX.out 4).trans rfl
 have f5 : w6.cell? ⟨w.heap.size, 5, none⟩ = some (.slice A3 O1.length c3) := (blk_cell HX.out 5).trans rfl
 have f6 : w6.cell? ⟨w.heap.size, 6, none⟩ = some (.slice A4 B.length c4) := (blk_cell HX.out 6).trans rfl
 have f7 : w6.cell? ⟨w.heap.size, 7, none⟩ = some (.bool els) := (blk_cell HX.out 7).trans rfl
 go_wp2_with fail
 refine (pbrk_c (els := els) (s0 := s0) (s1 := s1) (H.out.below HB.out) (HS.out.step HB.out) ⟨Kd.C_below HW.out.1 HB.out, HW.out.2⟩ HL.out).mono ?_
 rintro e w7 ⟨v, he, ho, hb⟩
 rw [← QY.out] at he
 rw [← EY.out] at ho
 obtain ⟨Aq, cq, rfl⟩ := Kd.R_slice ho
 subst he
 have Kq := Aside0.mk (And.intro (Kd.R_reads' ho).2.2 (Kd.R_reads' ho).2.1)
 clear ho
 replace Kx := Aside0.mk (And.intro (Kd.C_below Kx.out.1 hb) Kx.out.2)
 replace Ky := Aside0.mk (And.intro (Kd.C_below Ky.out.1 hb) Ky.out.2)
 replace Kp := Aside0.mk (And.intro (Kd.C_below Kp.out.1 hb) Kp.out.2)
 replace HX := Aside0.mk ((hb.block _ (blk_lt HX.out)).trans HX.out)
 replace HB := Aside0.mk (below_step HB.out hb)
 clear hb
 try clear f0 f1 f2 f3 f4 f5 f6 f7
 have f0 : w7.cell? ⟨w.heap.size, 0, none⟩ = some (.int .i64 s0) := (blk_cell HX.out 0).trans rfl
 have f1 : w7.cell? ⟨w.heap.size, 1, none⟩ = some (.slice A0 N0.length c0) := (blk_cell HX.out 1).trans rfl
 have f2 : w7.cell? ⟨w.heap.size, 2, none⟩ = some (.slice A1 O0.length c1) := (blk_cell HX.out 2).trans rfl
 have f3 : w7.cell? ⟨w.heap.size, 3, none⟩ = some (.int .i64 s1) := (blk_cell HX.out 3).trans rfl
 have f4 : w7.cell? ⟨w.heap.size, 4, none⟩ = some (.slice A2 N1.length c2) := (blk_cell HX.out 4).trans rfl
 have f5 : w7.cell? ⟨w.heap.size, 5, none⟩ = some (.slice A3 O1.length c3) := (blk_cell HX.out 5).trans rfl
 have f6 : w7.cell? ⟨w.heap.size, 6, none⟩ = some (.slice A4 B.length c4) := (blk_cell HX.out 6).trans rfl
 have f7 : w7.cell? ⟨w.heap.size, 7, none⟩ = some (.bool els) := (blk_cell HX.out 7).trans rfl
 go_wp2_with fail
 refine (ints_c Kp.out.1 Kp.out.2 Kx.out.1 Kx.out.2).mono ?_
 rintro e w8 ⟨rfl, hb⟩
 replace Kx := Aside0.mk (And.intro (Kd.C_below Kx.out.1 hb) Kx.out.2)
 replace Ky := Aside0.mk (And.intro (Kd.C_below Ky.out.1 hb) Ky.out.2)
 replace Kp := Aside0.mk (And.intro (Kd.C_below Kp.out.1 hb) Kp.out.2)
 replace Kq := Aside0.mk (And.intro (Kd.C_below Kq.out.1 hb) Kq.out.2)
 replace HX := Aside0.mk ((hb.block _ (blk_lt HX.out)).trans HX.out)
 replace HB := Aside0.mk (below_step HB.out hb)
 clear hb
 try clear f0 f1 f2 f3 f4 f5 f6 f7
 have f0 : w8.cell? ⟨w.heap.size, 0, none⟩ = some (.int .i64 s0) := (blk_cell HX.out 0).trans rfl
 have f1 : w8.cell? ⟨w.heap.size, 1, none⟩ = some (.slice A0 N0.length c0) := (blk_cell HX.out 1).trans rfl
 have f2 : w8.cell? ⟨w.heap.size, 2, none⟩ = some (.slice A1 O0.length c1) := (blk_cell HX.out 2).trans rfl
 have f3 : w8.cell? ⟨w.heap.size, 3, none⟩ = some (.int .i64 s1) := (blk_cell HX.out 3).trans rfl
 have f4 : w8.cell? ⟨w.heap.size, 4, none⟩ = some (.slice A2 N1.length c2) := (blk_cell HX.out 4).trans rfl
 have f5 : w8.cell? ⟨w.heap.size, 5, none⟩ = some (.slice A3 O1.length c3) := (blk_cell HX.out 5).trans rfl
 have f6 : w8.cell? ⟨w.heap.size, 6, none⟩ = some (.slice A4 B.length c4) := (blk_cell HX.out 6).trans rfl
 have f7 : w8.cell? ⟨w.heap.size, 7, none⟩ = some (.bool els) := (blk_cell HX.out 7).trans rfl
 go_wp2_with fail
 refine (ints_c Kq.out.1 Kq.out.2 Ky.out.1 Ky.out.2).mono ?_
 rintro e w9 ⟨rfl, hb⟩
 replace Kx := Aside0.mk (And.intro (Kd.C_below Kx.out.1 hb) Kx.out.2)
 replace Ky := Aside0.mk (And.intro (Kd.C_below Ky.out.1 hb) Ky.out.2)
 replace Kp := Aside0.mk (And.intro (Kd.C_below Kp.out.1 hb) Kp.out.2)
 replace Kq := Aside0.mk (And.intro (Kd.C_below Kq.out.1 hb) Kq.out.2)
 replace HX := Aside0.mk ((hb.block _ (blk_lt HX.out)).trans HX.out)
 replace HB := Aside0.mk (below_step HB.out hb)
 clear hb
 try clear f0 f1 f2 f3 f4 f5 f6 f7
 have f0 : w9.cell? ⟨w.heap.size, 0, none⟩ = some (.int .i64 s0) := (blk_cell HX.out 0).trans rfl
 have f1 : w9.cell? ⟨w.heap.size, 1, none⟩ = some (.slice A0 N0.length c0) := (blk_cell HX.out 1).trans rfl
 have f2 : w9.cell? ⟨w.heap.size, 2, none⟩ = some (.slice A1 O0.length c1) := (blk_cell HX.out 2).trans rfl
 have f3 : w9.cell? ⟨w.heap.size, 3, none⟩ = some (.int .i64 s1) := (blk_cell HX.out 3).trans rfl
 have f4 : w9.cell? ⟨w.heap.size, 4, none⟩ = some (.slice A2 N1.length c2) := (blk_cell HX.out 4).trans rfl
 have f5 : w9.cell? ⟨w.heap.size, 5, none⟩ = some (.slice A3 O1.length c3) := (blk_cell HX.out 5).trans rfl
 have f6 : w9.cell? ⟨w.heap.size, 6, none⟩ = some (.slice A4 B.length c4) := (blk_cell HX.out 6).trans rfl
 have f7 : w9.cell? ⟨w.heap.size, 7, none⟩ = some (.bool els) := (blk_cell HX.out 7).trans rfl
 go_wp2_with fail
 refine (errI_num qf QF1.out (HS.out.step HB.out)).mono ?_
 rintro e w10 ⟨rfl, hb⟩
 replace Kx := Aside0.mk (And.intro (Kd.C_below Kx.out.1 hb) Kx.out.2)
 replace Ky := Aside0.mk (And.intro (Kd.C_below Ky.out.1 hb) Ky.out.2)
 replace Kp := Aside0.mk (And.intro (Kd.C_below Kp.out.1 hb) Kp.out.2)
 replace Kq := Aside0.mk (And.intro (Kd.C_below Kq.out.1 hb) Kq.out.2)
 replace HX := Aside0.mk ((hb.block _ (blk_lt HX.out)).trans HX.out)
 replace HB := Aside0.mk (below_step HB.out hb)
 clear hb
 try clear f0 f1 f2 f3 f4 f5 f6 f7
 have f0 : w10.cell? ⟨w.heap.size, 0, none⟩ = some (.int .i64 s0) := (blk_cell HX.out 0).trans rfl
 have f1 : w10.cell? ⟨w.heap.size, 1, none⟩ = some (.slice A0 N0.length c0) := (blk_cell HX.out 1).trans rfl
 have f2 : w10.cell? ⟨w.heap.size, 2, none⟩ = some (.slice A1 O0.length c1) := (blk_cell HX.out 2).trans rfl
 have f3 : w10.cell? ⟨w.heap.size, 3, none⟩ = some (.int .i64 s1) := (blk_cell HX.out 3).trans rfl
 have f4 : w10.cell? ⟨w.heap.size, 4, none⟩ = some (.slice A2 N1.length c2) := (blk_cell HX.out 4).trans rfl
 have f5 : w10.cell? ⟨w.heap.size, 5, none⟩ = some (.slice A3 O1.length c3) := (blk_cell HX.out 5).trans rfl
 have f6 : w10.cell? ⟨w.heap.size, 6, none⟩ = some (.slice A4 B.length c4) := (blk_cell HX.out 6).trans rfl
 have f7 : w10.cell? ⟨w.heap.size, 7, none⟩ = some (.bool els) := (blk_cell HX.out 7).trans rfl
 go_wp2_with fail
 refine (psize_c (els := els) (s0 := s0) (s1 := s1) (H.out.below HB.out)).mono ?_
 rintro e w11 ⟨he, hb⟩
 rw [← SZ.out] at he
 subst he
 replace Kx := Aside0.mk (And.intro (Kd.C_below Kx.out.1 hb) Kx.out.2)
 replace Ky := Aside0.mk (And.intro (Kd.C_below Ky.out.1 hb) Ky.out.2)
 replace Kp := Aside0.mk (And.intro (Kd.C_below Kp.out.1 hb) Kp.out.2)
 replace Kq := Aside0.mk (And.intro (Kd.C_below Kq.out.1 hb) Kq.out.2)
 replace HX := Aside0.mk ((hb.block _ (blk_lt HX.out)).trans HX.out)
 replace HB := Aside0.mk (below_step HB.out hb)
 clear hb
 try clear f0 f1 f2 f3 f4 f5 f6 f7
 have f0 : w11.cell? ⟨w.heap.size, 0, none⟩ = some (.int .i64 s0) := (blk_cell HX.out 0).trans rfl
 have f1 : w11.cell? ⟨w.heap.size, 1, none⟩ = some (.slice A0 N0.length c0) := (blk_cell HX.out 1).trans rfl
 have f2 : w11.cell? ⟨w.heap.size, 2, none⟩ = some (.slice A1 O0.length c1) := (blk_cell HX.out 2).trans rfl
 have f3 : w11.cell? ⟨w.heap.size, 3, none⟩ = some (.int .i64 s1) := (blk_cell HX.out 3).trans rfl
 have f4 : w11.cell? ⟨w.heap.size, 4, none⟩ = some (.slice A2 N1.length c2) := (blk_cell HX.out 4).trans rfl
 have f5 : w11.cell? ⟨w.heap.size, 5, none⟩ = some (.slice A3 O1.length c3) := (blk_cell HX.out 5).trans rfl
 have f6 : w11.cell? ⟨w.heap.size, 6, none⟩ = some (.slice A4 B.length c4) := (blk_cell HX.out 6).trans rfl
 have f7 : w11.cell? ⟨w.heap.size, 7, none⟩ = some (.bool els) := (blk_cell HX.out 7).trans rfl
 go_wp2_with fail
 refine (errI_num qx QX1.out (HS.out.step HB.out)).mono ?_
 rintro e w12 ⟨rfl, hb⟩
 replace Kx := Aside0.mk (And.intro (Kd.C_below Kx.out.1 hb) Kx.out.2)
 replace Ky := Aside0.mk (And.intro (Kd.C_below Ky.out.1 hb) Ky.out.2)
 replace Kp := Aside0.mk (And.intro (Kd.C_below Kp.out.1 hb) Kp.out.2)
 replace Kq := Aside0.mk (And.intro (Kd.C_below Kq.out.1 hb) Kq.out.2)
 replace HX := Aside0.mk ((hb.block _ (blk_lt HX.out)).trans HX.out)
 replace HB := Aside0.mk (below_step HB.out hb)
 clear hb
 try clear f0 f1 f2 f3 f4 f5 f6 f7
 have f0 : w12.cell? ⟨w.heap.size, 0, none⟩ = some (.int .i64 s0) := (blk_cell HX.out 0).trans rfl
 have f1 : w12.cell? ⟨w.heap.size, 1, none⟩ = some (.slice A0 N0.length c0) := (blk_cell HX.out 1).trans rfl
 have f2 : w12.cell? ⟨w.heap.size, 2, none⟩ = some (.slice A1 O0.length c1) := (blk_cell HX.out 2).trans rfl
 have f3 : w12.cell? ⟨w.heap.size, 3, none⟩ = some (.int .i64 s1) := (blk_cell HX.out 3).trans rfl
 have f4 : w12.cell? ⟨w.heap.size, 4, none⟩ = some (.slice A2 N1.length c2) := (blk_cell HX.out 4).trans rfl
 have f5 : w12.cell? ⟨w.heap.size, 5, none⟩ = some (.slice A3 O1.length c3) := (blk_cell HX.out 5).trans rfl
 have f6 : w12.cell? ⟨w.heap.size, 6, none⟩ = some (.slice A4 B.length c4) := (blk_cell HX.out 6).trans rfl
 have f7 : w12.cell? ⟨w.heap.size, 7, none⟩ = some (.bool els) := (blk_cell HX.out 7).trans rfl
 go_wp2_with fail
 refine (errI_num qy QY1.out (HS.out.step HB.out)).mono ?_
 rintro e w13 ⟨rfl, hb⟩
 replace Kx := Aside0.mk (And.intro (Kd.C_below Kx.out.1 hb) Kx.out.2)
 replace Ky := Aside0.mk (And.intro (Kd.C_below Ky.out.1 hb) Ky.out.2)
 replace Kp := Aside0.mk (And.intro (Kd.C_below Kp.out.1 hb) Kp.out.2)
 replace Kq := Aside0.mk (And.intro (Kd.C_below Kq.out.1 hb) Kq.out.2)
 replace HX := Aside0.mk ((hb.block _ (blk_lt HX.out)).trans HX.out)
 replace HB := Aside0.mk (below_step HB.out hb)
 clear hb
 try clear f0 f1 f2 f3 f4 f5 f6 f7
 have f0 : w13.cell? ⟨w.heap.size, 0, none⟩ = some (.int .i64 s0) := (blk_cell HX.out 0).trans rfl
 have f1 : w13.cell? ⟨w.heap.size, 1, none⟩ = some (.slice A0 N0.length c0) := (blk_cell HX.out 1).trans rfl
 have f2 : w13.cell? ⟨w.heap.size, 2, none⟩ = some (.slice A1 O0.length c1) := (blk_cell HX.out 2).trans rfl
 have f3 : w13.cell? ⟨w.heap.size, 3, none⟩ = some (.int .i64 s1) := (blk_cell HX.out 3).trans rfl
 have f4 : w13.cell? ⟨w.heap.size, 4, none⟩ = some (.slice A2 N1.length c2) := (blk_cell HX.out 4).trans rfl
 have f5 : w13.cell? ⟨w.heap.size, 5, none⟩ = some (.slice A3 O1.length c3) := (blk_cell HX.out 5).trans rfl
 have f6 : w13.cell? ⟨w.heap.size, 6, none⟩ = some (.slice A4 B.length c4) := (blk_cell HX.out 6).trans rfl
 have f7 : w13.cell? ⟨w.heap.size, 7, none⟩ = some (.bool els) := (blk_cell HX.out 7).trans rfl
 go_wp2_with fail
 go_ret
 exact ⟨rfl, HB.out⟩
end Go.Proofs.YtfonajakaimnoaaDoor.C14

namespace Go.Proofs.YtfonajakaimnoaaDoor.Lib
open Go.RowKit Go.Proofs.YtfonajakaimnoaaDoorW.PrintWords Go.Proofs.YtfonajakaimnoaaDoorW.PrintLast Go.Proofs.YtfonajakaimnoaaDoorW.PrintMore
attribute [local go_sem] max2_int min2_int max_two min_two max_three min_three max_four min_four   -- for this text's walks alone
set_option linter.unusedVariables false
set_option linter.unusedSimpArgs false
def caesurakit_Pick.f (a0 : Int) (a1 : Int) : Option (Int) := if a1 < 1 then (some 0) else (if a1 = 0 then (none) else (if (Int.tmod a0 a1) < 0 then (some (wrap64 ((Int.tmod a0 a1) + a1))) else (some (Int.tmod a0 a1))))
set_option maxHeartbeats 8000000 in
set_option maxRecDepth 100000 in
theorem caesurakit_Pick.calls (a0 : Int) (a1 : Int) (r : Int) (w : World) (h : caesurakit_Pick.f a0 a1 = some r) :
  Calls Tryd.prog 31 #[.int .i64 a0, .int .i64 a1] w fun e w' => e = .returned (.int .i64 r) ∧ Drawn0 w w' := by
 have H : (if a1 < 1 then (some 0) else (if a1 = 0 then (none) else (if (Int.tmod a0 a1) < 0 then (some (wrap64 ((Int.tmod a0 a1) + a1))) else (some (Int.tmod a0 a1))))) = some r := h
 clear h
 by_cases c3 : a1 < 1
 ·rw [if_pos c3] at H
  have c3b0 : decide (a1 < 1) = true := decide_eq_true c3
  clear c3
  obtain rfl := Option.some.inj H
  go_enter Tryd.func31, Tryd.ntmps31
  go_wp2
  go_ret
  exact ⟨by first | rfl | (simp; done) | (simp [*]; done), by repeat (first | exact Drawn0.refl _ | apply Drawn0.step)⟩
 ·rw [if_neg c3] at H
  have c3b0 : decide (a1 < 1) = false := decide_eq_false c3
  clear c3
  by_cases c4 : a1 = 0
  ·rw [if_pos c4] at H
   exact absurd H (by simp)
  ·rw [if_neg c4] at H
   have c4b0 : (a1 == 0) = false := beq_eq_false_iff_ne.mpr c4
   have c4b1 : (a1 != 0) = true := bne_iff_ne.mpr c4
   by_cases c5 : (Int.tmod a0 a1) < 0
   ·rw [if_pos c5] at H
    have c5b0 : decide ((Int.tmod a0 a1) < 0) = true := decide_eq_true c5
    clear c5
    obtain rfl := Option.some.inj H
    go_enter Tryd.func31, Tryd.ntmps31
    go_wp2
    go_ret
    exact ⟨by first | rfl | (simp; done) | (simp [*]; done), by repeat (first | exact Drawn0.refl _ | apply Drawn0.step)⟩
   ·rw [if_neg c5] at H
    have c5b0 : decide ((Int.tmod a0 a1) < 0) = false := decide_eq_false c5
    clear c5
    obtain rfl := Option.some.inj H
    go_enter Tryd.func31, Tryd.ntmps31
    go_wp2
    go_ret
    exact ⟨by first | rfl | (simp; done) | (simp [*]; done), by repeat (first | exact Drawn0.refl _ | apply Drawn0.step)⟩
end Go.Proofs.YtfonajakaimnoaaDoor.Lib

namespace Go.Proofs.YtfonajakaimnoaaDoor.C11
open Go.RowKit Go.Proofs.YtfonajakaimnoaaDoorW.PrintWords Go.Proofs.YtfonajakaimnoaaDoorW.PrintLast Go.Proofs.YtfonajakaimnoaaDoorW.PrintMore Go.Proofs.YtfonajakaimnoaaDoor.Lib Lent Go.Proofs.YtfonajakaimnoaaDoor.Fn Go.Proofs.YtfonajakaimnoaaDoor.Lend
set_option linter.unusedVariables false
set_option linter.unusedSimpArgs false
def pk2 (x : Int) : Int := (caesurakit_Pick.f x 2).getD 0
theorem pk2_eq (x : Int) : caesurakit_Pick.f x 2 = some (pk2 x) := by
 unfold pk2 caesurakit_Pick.f
 rw [if_neg (by decide), if_neg (by decide)]
 split <;> rfl
theorem pk2_in (x : Int) : 0 ≤ pk2 x ∧ pk2 x ≤ 1 := by
 unfold pk2 caesurakit_Pick.f
 rw [if_neg (by decide), if_neg (by decide)]
 have h1 := Int.tmod_lt_of_pos x (show (0 : Int) < 2 by decide)
 have h2 := Int.lt_tmod_of_pos x (show (0 : Int) < 2 by decide)
 split
 ·show 0 ≤ wrap64 _ ∧ wrap64 _ ≤ 1
  unfold wrap64
  omega
 ·show 0 ≤ x.tmod 2 ∧ x.tmod 2 ≤ (1 : Int)
  omega
def flip : List Int → List Int
 | [] => []
 | x :: r => (1 - pk2 x) :: r
theorem flip_length (l : List Int) : (flip l).length = l.length := by cases l <;> rfl
structure Tg where
 A : Option Addr
 c : Nat
 xs : List Int
 m : List Int
 ok : Nat → Prop
end Go.Proofs.YtfonajakaimnoaaDoor.C11

namespace Go.Proofs.YtfonajakaimnoaaDoor.C14
open Go.RowKit Go.Proofs.YtfonajakaimnoaaDoorW.PrintWords Go.Proofs.YtfonajakaimnoaaDoorW.PrintLast Go.Proofs.YtfonajakaimnoaaDoorW.PrintMore Go.Proofs.YtfonajakaimnoaaDoor.Lib Lent Go.Proofs.YtfonajakaimnoaaDoor.Fn Go.Proofs.YtfonajakaimnoaaDoor.C11 Go.Proofs.YtfonajakaimnoaaDoor.Lend
set_option linter.unusedVariables false
set_option linter.unusedSimpArgs false
structure Z (w : World) (bp : Nat) (XC PC : Array Value) (W4 : Option Addr) (q4 : Nat) (ws : List Int) (g0 g1 h0 h1 h2 h3 h4 h5 : Nat) (B0 : Option Addr) (d0 : Nat) (N0 : LL) (B1 : Option Addr) (d1 : Nat) (O0 : LL) (B2 : Option Addr) (d2 : Nat) (N1 : LL) (B3 : Option Addr) (d3 : Nat) (O1 : LL) (B4 : Option Addr) (d4 : Nat) (B : List Bool) (W : World) : Prop where
 below : Below w.heap.size w W
 hx : W.heap[w.heap.size]? = some (.cells XC 62 (0, 0))
 w0 : Kd.R kI 3 W (w.heap.size + 1) (rng g0 g1) (.slice W4 (marks ws).length q4) (marks ws)
 lq : LQ (w.heap.size + 1) h0 h1 h2 h3 h4 h5 B0 d0 N0 B1 d1 O0 B2 d2 N1 B3 d3 O1 B4 d4 B W
 hp : W.heap[bp]? = some (.cells PC 60 (0, 0))
 o : w.heap.size < g0 ∧ g0 ≤ g1 ∧ g1 ≤ h0 ∧ h5 ≤ bp
section
variable {w : World} {bp : Nat} {XC PC : Array Value} {W4 : Option Addr} {q4 : Nat} {ws : List Int} {g0 g1 h0 h1 h2 h3 h4 h5 : Nat} {B0 B1 B2 B3 B4 : Option Addr} {d0 d1 d2 d3 d4 : Nat} {N0 O0 N1 O1 : LL} {B : List Bool} {W W' : World}
theorem Z.step (h : Z w bp XC PC W4 q4 ws g0 g1 h0 h1 h2 h3 h4 h5 B0 d0 N0 B1 d1 O0 B2 d2 N1 B3 d3 O1 B4 d4 B W) (hb : Below W.heap.size W W') : Z w bp XC PC W4 q4 ws g0 g1 h0 h1 h2 h3 h4 h5 B0 d0 N0 B1 d1 O0 B2 d2 N1 B3 d3 O1 B4 d4 B W' :=
 ⟨below_step h.below hb, (hb.block _ (blk_lt h.hx)).trans h.hx, Kd.R_below h.w0 hb, h.lq.step hb, (hb.block _ (blk_lt h.hp)).trans h.hp, h.o⟩
theorem Z.word (h : Z w bp XC PC W4 q4 ws g0 g1 h0 h1 h2 h3 h4 h5 B0 d0 N0 B1 d1 O0 B2 d2 N1 B3 d3 O1 B4 d4 B W) : Kd.C kI W W4 ws.length ws ∧ ws.length ≤ q4 := by
 obtain ⟨_, l, k⟩ := Kd.R_reads' h.w0
 have e : (marks ws).length = ws.length + 2 := by simp [marks]
 exact ⟨C_pre k, by omega⟩
theorem Z.wmarks (h : Z w bp XC PC W4 q4 ws g0 g1 h0 h1 h2 h3 h4 h5 B0 d0 N0 B1 d1 O0 B2 d2 N1 B3 d3 O1 B4 d4 B W) : Kd.C kI W W4 (marks ws).length (marks ws) ∧ (marks ws).length ≤ q4 := by
 obtain ⟨_, l, k⟩ := Kd.R_reads' h.w0
 exact ⟨k, l⟩
theorem Z.put {x : Int} {r : List Int} (h : Z w bp XC PC W4 q4 (x :: r) g0 g1 h0 h1 h2 h3 h4 h5 B0 d0 N0 B1 d1 O0 B2 d2 N1 B3 d3 O1 B4 d4 B W) :
  ∃ g, W4 = some ⟨g, 0, none⟩ ∧ W.cell? ⟨g, 0, none⟩ = some (.int .i64 x) ∧ W.frozen? ⟨g, 0, none⟩ = false ∧ ∀ v, v = 1 - pk2 x →
   Z w bp XC PC W4 q4 (flip (x :: r)) g0 g1 h0 h1 h2 h3 h4 h5 B0 d0 N0 B1 d1 O0 B2 d2 N1 B3 d3 O1 B4 d4 B (W.setCell ⟨g, 0, none⟩ (.int .i64 v)) := by
 have hr := h.w0
 obtain ⟨g, cap, e, _, _, _⟩ := Kd.R_form hr (by simp [marks])
 have hA : W4 = some ⟨g, 0, none⟩ := by injection e
 subst hA
 have hok := hr.1 g (by simp [Value.ownBlock])
 have hok' : g0 ≤ g ∧ g < g1 := hok
 have hc := Kd.R_cell (d := 0) hr (0 : Int) (by omega) (by simp [marks]; omega)
 have o := h.o
 have ol := h.lq.o
 refine ⟨g, rfl, hc.1, hc.2, fun v hv => ?_⟩
 have far : ∀ k, k ≠ g → (W.setCell ⟨g, 0, none⟩ (.int .i64 v)).heap[k]? = W.heap[k]? := fun k hk => Below.heap_setCell W ⟨g, 0, none⟩ _ k hk
 have hsz : (W.setCell ⟨g, 0, none⟩ (.int .i64 v)).heap.size = W.heap.size := by simp [World.setCell]
 refine ⟨h.below.setCell (by show w.heap.size ≤ g; omega) _, (far _ (by omega)).trans h.hx, ?_, h.lq.move (fun k hk1 hk2 => far k (by omega)) (by omega), (far _ (by omega)).trans h.hp, o⟩
 have := (Kd.R_put hr (0 : Int) v).1
 rw [show (marks (x :: r)).set (0 : Int).toNat v = marks (flip (x :: r)) from by rw [hv]; rfl] at this
 rw [show (marks (flip (x :: r))).length = (marks (x :: r)).length from by simp [marks, flip_length]]
 exact this
theorem Z.over {N0' O0' N1' O1' : LL} {B' : List Bool} (h : Z w bp XC PC W4 q4 ws g0 g1 h0 h1 h2 h3 h4 h5 B0 d0 N0 B1 d1 O0 B2 d2 N1 B3 d3 O1 B4 d4 B W)
  (hl : LQ (w.heap.size + 1) h0 h1 h2 h3 h4 h5 B0 d0 N0' B1 d1 O0' B2 d2 N1' B3 d3 O1' B4 d4 B' W') (hb : Below h0 W W') (hk : ∀ k, h5 ≤ k → k < W.heap.size → W'.heap[k]? = W.heap[k]?) :
  Z w bp XC PC W4 q4 ws g0 g1 h0 h1 h2 h3 h4 h5 B0 d0 N0' B1 d1 O0' B2 d2 N1' B3 d3 O1' B4 d4 B' W' := by
 have o := h.o
 have ol := h.lq.o
 have hltp := blk_lt h.hp
 exact ⟨h.below.trans (hb.mono (by omega)), (hb.block _ (by omega)).trans h.hx, Kd.R_move h.w0 (fun k hk2 => hb.block k (by have := hk2.2; omega)), hl, (hk _ o.2.2.2 hltp).trans h.hp, o⟩
theorem Z.var (h : Z w bp XC PC W4 q4 ws g0 g1 h0 h1 h2 h3 h4 h5 B0 d0 N0 B1 d1 O0 B2 d2 N1 B3 d3 O1 B4 d4 B W) (j : Nat) (u : Value) :
  Z w bp XC (PC.setIfInBounds j u) W4 q4 ws g0 g1 h0 h1 h2 h3 h4 h5 B0 d0 N0 B1 d1 O0 B2 d2 N1 B3 d3 O1 B4 d4 B (W.setCell ⟨bp, j, none⟩ u) := by
 have o := h.o
 have ol := h.lq.o
 have far : ∀ k, k ≠ bp → (W.setCell ⟨bp, j, none⟩ u).heap[k]? = W.heap[k]? := fun k hk => Below.heap_setCell W ⟨bp, j, none⟩ _ k hk
 have hsz : (W.setCell ⟨bp, j, none⟩ u).heap.size = W.heap.size := by simp [World.setCell]
 exact ⟨h.below.setCell (by show w.heap.size ≤ bp; omega) _, (far _ (by omega)).trans h.hx, Kd.R_move h.w0 (fun k hk2 => far k (by have := hk2.2; omega)), h.lq.move (fun k hk1 hk2 => far k (by omega)) (by omega), blk_put h.hp j u rfl, o⟩
theorem Z.put2 {X : LL} (h : Z w bp XC PC W4 q4 ws g0 g1 h0 h1 h2 h3 h4 h5 B0 d0 N0 B1 d1 O0 B2 d2 N1 B3 d3 O1 B4 d4 B W) {g : Nat} (hg : rng h2 h3 g) (v : Value)
  (hp : Kd.S kM 25 (W.setCell ⟨g, 0, none⟩ v) (w.heap.size + 1) (rng h2 h3) (.slice B2 (rowsM X).length d2) (rowsM X)) :
  Z w bp XC PC W4 q4 ws g0 g1 h0 h1 h2 h3 h4 h5 B0 d0 N0 B1 d1 O0 B2 d2 X B3 d3 O1 B4 d4 B (W.setCell ⟨g, 0, none⟩ v) := by
 have o := h.o
 have ol := h.lq.o
 obtain ⟨g2, g3⟩ := hg
 have far : ∀ k, k ≠ g → (W.setCell ⟨g, 0, none⟩ v).heap[k]? = W.heap[k]? := fun k hk => Below.heap_setCell W ⟨g, 0, none⟩ _ k hk
 have hsz : (W.setCell ⟨g, 0, none⟩ v).heap.size = W.heap.size := by simp [World.setCell]
 exact ⟨h.below.setCell (by show w.heap.size ≤ g; omega) _, (far _ (by omega)).trans h.hx, Kd.R_move h.w0 (fun k hk2 => far k (by have := hk2.2; omega)),
  ⟨Kd.S_move h.lq.p0 (fun k hk => far k (by have := hk.2; omega)), Kd.S_move h.lq.p1 (fun k hk => far k (by have := hk.2; omega)), hp, Kd.S_move h.lq.p3 (fun k hk => far k (by have := hk.1; omega)), Kd.R_move h.lq.p4 (fun k hk => far k (by have := hk.1; omega)), by omega⟩,
  (far _ (by omega)).trans h.hp, o⟩
theorem take_cp {m k : Nat} (h : Cp B0 d0 N0 B1 d1 O0 B2 d2 N1 B3 d3 O1 B4 d4 B W) (hm : m ≤ N0.length) (hk : k ≤ O0.length) : Cp B0 d0 (N0.take m) B1 d1 (O0.take k) B2 d2 N1 B3 d3 O1 B4 d4 B W := by
 have key : ∀ {A : Option Addr} {c : Nat} {L : LL} {n : Nat}, n ≤ L.length → Kd.C kL W A L.length L ∧ L.length ≤ c → Kd.C kL W A (L.take n).length (L.take n) ∧ (L.take n).length ≤ c := fun {A c L n} hn hc => by
  have e : L = L.take n ++ L.drop n := (List.take_append_drop n L).symm
  have h1 := hc.1
  rw [e] at h1
  exact ⟨C_pre h1, by rw [List.length_take]; omega⟩
 exact ⟨key hm h.n0, key hk h.o0, h.n1, h.o1, h.b⟩
end
theorem first_row2 {W : World} {base : Nat} {ok : Nat → Prop} {A : Option Addr} {d : Nat} {L : LL} (h : Kd.S kM 25 W base ok (.slice A (rowsM L).length d) (rowsM L)) :
  (L.length = 0 ∧ ∀ v, set00 v L = L) ∨
  (∃ gb A' c', A = some ⟨gb, 0, none⟩ ∧ 0 < L.length ∧ (L.getD 0 []).length = 0 ∧ W.cell? ⟨gb, 0, none⟩ = some (.slice A' 0 c')) ∨
  (∃ gb g c' n, A = some ⟨gb, 0, none⟩ ∧ 0 < L.length ∧ 0 < n ∧ (L.getD 0 []).length = n ∧ W.cell? ⟨gb, 0, none⟩ = some (.slice (some ⟨g, 0, none⟩) n c') ∧ ok g ∧ W.frozen? ⟨g, 0, none⟩ = false ∧ (∃ x, W.cell? ⟨g, 0, none⟩ = some (.int .i64 x)) ∧
   ∀ v, Kd.S kM 25 (W.setCell ⟨g, 0, none⟩ (.int .i64 v)) base ok (.slice A (rowsM (set00 v L)).length d) (rowsM (set00 v L))) := by
 cases L with
 | nil => exact .inl ⟨rfl, fun _ => rfl⟩
 | cons y rest =>
  obtain ⟨gb, cap, e, _, _, _⟩ := Kd.S_form h (by rw [rowsM_length]; exact Nat.succ_pos _)
  injection e with e1 e2 e3
  subst e1
  obtain ⟨oki, c, _, hM, hcc, hoki, hH⟩ := Kd.S_lend h ([], []) (0 : Int) (by omega) (by rw [rowsM_length]; omega)
  obtain ⟨A', c', rfl, hR⟩ := hM
  have hx : (rowsM (y :: rest)).getD (0 : Int).toNat ([], []) = (y, [-77, -77]) := rfl
  rw [hx] at hR hcc hH
  have hcell := hcc 0 _ rfl
  cases y with
  | nil => exact .inr (.inl ⟨gb, A', c', rfl, Nat.succ_pos _, rfl, hcell⟩)
  | cons x r =>
   obtain ⟨g, cap', e', _, _, cells, hcells⟩ := Kd.R_form hR (by simp)
   have hA : A' = some ⟨g, 0, none⟩ := by injection e'
   subst hA
   have hok : oki g := hR.1 g (by simp [Value.ownBlock])
   have hc := Kd.R_cell (d := 0) hR (0 : Int) (by omega) (by simp; omega)
   refine .inr (.inr ⟨gb, g, c', (x :: r).length, rfl, Nat.succ_pos _, Nat.succ_pos _, rfl, hcell, (hoki g hok).1, hc.2, ⟨_, hc.1⟩, fun v => ?_⟩)
   have hp := (Kd.R_put hR (0 : Int) v).1
   have hH' := Kd.H_step (w1 := W.setCell ⟨g, 0, none⟩ (.int .i64 v)) hH (fun k _ hn _ => Below.heap_setCell W ⟨g, 0, none⟩ _ k (fun e => hn (by rw [show k = g from e]; exact hok)))
   have := Kd.H_back hH' (x' := (v :: r, [-77, -77])) (okp := oki) ⟨some ⟨g, 0, none⟩, c', rfl, hp⟩ (fun _ hk => hk)
   exact this
end Go.Proofs.YtfonajakaimnoaaDoor.C14
