/- Part of a proof: texts of one seat, one behind the other. -/
import Derived.Test.YtfonajakaimnoaaDoorPR0
import Derived.Test.YtfonajakaimnoaaDoorPR1

namespace Go.Proofs.YtfonajakaimnoaaDoor.Lib
open Go.RowKit Go.Proofs.YtfonajakaimnoaaDoorW.PrintWords Go.Proofs.YtfonajakaimnoaaDoorW.PrintLast Go.Proofs.YtfonajakaimnoaaDoorW.PrintMore
attribute [local go_sem] max2_int min2_int max_two min_two max_three min_three max_four min_four   -- for this text's walks alone
set_option linter.unusedVariables false
set_option linter.unusedSimpArgs false

/-! ### caesuraref11_Check: function 29 -/
mutual
def caesuraref11_Check.l0 : Nat → Int → Int → Int → List (List Int) → List Int → List Int → List (List Int) → Bool → Option (Int)
 | 0, _, _, _, _, _, _, _, _ => none
 | k + 1, x1, x5, x6, x355000, x355001, x355002, x355003, x355004 => if x6 < (x355003.length : Int) then (if 0 ≤ x6 then (caesuraref11_Check.l0 k x1 (wrap64 (x5 + ((rd_L1 x355003 x6).length : Int))) (wrap64 (x6 + 1)) x355000 x355001 x355002 x355003 x355004) else (none)) else (caesuraref11_Check.l1 k x1 x5 0 0 x355000 x355001 x355002 x355003 x355004)
def caesuraref11_Check.l1 : Nat → Int → Int → Int → Int → List (List Int) → List Int → List Int → List (List Int) → Bool → Option (Int)
 | 0, _, _, _, _, _, _, _, _, _ => none
 | k + 1, x1, x5, x7, x8, x355000, x355001, x355002, x355003, x355004 => if x8 < (x355000.length : Int) then (if 0 ≤ x8 then (caesuraref11_Check.l1 k x1 x5 (wrap64 (x7 + ((rd_L1 x355000 x8).length : Int))) (wrap64 (x8 + 1)) x355000 x355001 x355002 x355003 x355004) else (none)) else (if (x355000.length : Int) > 4000 then (caesuraref11_Check.j2 k x1 true x355000 x355001 x355002 x355003 x355004) else (if x7 > 4194304 then (caesuraref11_Check.j2 k x1 true x355000 x355001 x355002 x355003 x355004) else (caesuraref11_Check.j2 k x1 (decide (x5 > 1048576)) x355000 x355001 x355002 x355003 x355004)))
def caesuraref11_Check.j2 : Nat → Int → Bool → List (List Int) → List Int → List Int → List (List Int) → Bool → Option (Int)
 | 0, _, _, _, _, _, _, _ => none
 | k + 1, x1, x55, x355000, x355001, x355002, x355003, x355004 => if x55 = true then (some 3) else (if x1 < 1 then (caesuraref11_Check.j3 k x1 (x355000.length : Int) true x355000 x355001 x355002 x355003 x355004) else (if x1 > 16384 then (caesuraref11_Check.j3 k x1 (x355000.length : Int) true x355000 x355001 x355002 x355003 x355004) else (caesuraref11_Check.j3 k x1 (x355000.length : Int) ((x355003.length : Int) != (x355000.length : Int)) x355000 x355001 x355002 x355003 x355004)))
def caesuraref11_Check.j3 : Nat → Int → Int → Bool → List (List Int) → List Int → List Int → List (List Int) → Bool → Option (Int)
 | 0, _, _, _, _, _, _, _, _ => none
 | k + 1, x1, x9, x71, x355000, x355001, x355002, x355003, x355004 => if x71 = true then (some 1) else ((caesuraref11_all.f k x355000 x1).bind fun t357 => ((caesuraref11_all.f k x355003 x9).bind fun t358 => ((caesuraref11_rises.f k x355001 x9).bind fun t359 => ((caesuraref11_rises.f k x355002 x9).bind fun t360 => (if t357 = true then (if t358 = true then (if t359 = true then (if t360 = true then (some 0) else (some 1)) else (some 1)) else (some 1)) else (some 1))))))
end
def caesuraref11_Check.f (k : Nat) (l0_0 : List (List Int)) (l0_1 : List Int) (l0_2 : List Int) (l0_3 : List (List Int)) (a0_4 : Bool) (a1 : Int) : Option (Int) := caesuraref11_Check.l0 k a1 0 0 l0_0 l0_1 l0_2 l0_3 a0_4
theorem caesuraref11_Check.mono_l : ∀ k, (∀ y0 y1 y2 y3 y4 y5 y6 y7, LeO (caesuraref11_Check.l0 k y0 y1 y2 y3 y4 y5 y6 y7) (caesuraref11_Check.l0 (k + 1) y0 y1 y2 y3 y4 y5 y6 y7)) ∧ (∀ y0 y1 y2 y3 y4 y5 y6 y7 y8, LeO (caesuraref11_Check.l1 k y0 y1 y2 y3 y4 y5 y6 y7 y8) (caesuraref11_Check.l1 (k + 1) y0 y1 y2 y3 y4 y5 y6 y7 y8)) ∧ (∀ y0 y1 y2 y3 y4 y5 y6, LeO (caesuraref11_Check.j2 k y0 y1 y2 y3 y4 y5 y6) (caesuraref11_Check.j2 (k + 1) y0 y1 y2 y3 y4 y5 y6)) ∧ (∀ y0 y1 y2 y3 y4 y5 y6 y7, LeO (caesuraref11_Check.j3 k y0 y1 y2 y3 y4 y5 y6 y7) (caesuraref11_Check.j3 (k + 1) y0 y1 y2 y3 y4 y5 y6 y7))
 | 0 => ⟨fun _ _ _ _ _ _ _ _ r h => by simp [caesuraref11_Check.l0] at h, fun _ _ _ _ _ _ _ _ _ r h => by simp [caesuraref11_Check.l1] at h, fun _ _ _ _ _ _ _ r h => by simp [caesuraref11_Check.j2] at h, fun _ _ _ _ _ _ _ _ r h => by simp [caesuraref11_Check.j3] at h⟩
 | k + 1 => by
  obtain ⟨ih0, ih1, ih2, ih3⟩ := caesuraref11_Check.mono_l k
  refine ⟨?_, ?_, ?_, ?_⟩
  ·intro y0 y1 y2 y3 y4 y5 y6 y7
   unfold caesuraref11_Check.l0
   repeat' first
   | (with_reducible exact ih0 _ _ _ _ _ _ _ _)
   | (with_reducible exact ih1 _ _ _ _ _ _ _ _ _)
   | (with_reducible exact ih2 _ _ _ _ _ _ _)
   | (with_reducible exact ih3 _ _ _ _ _ _ _ _)
   | (with_reducible exact caesuraref11_all.mono _ _ _)
   | (with_reducible exact caesuraref11_rises.mono _ _ _)
   | (with_reducible exact LeO.refl _)
   | (with_reducible exact LeO.none _)
   | (with_reducible refine LeO.ite ?_ ?_)
   | (with_reducible refine LeO.bind ?_ (fun _ => ?_))
   | exact ih0 _ _ _ _ _ _ _ _
   | exact ih1 _ _ _ _ _ _ _ _ _
   | exact ih2 _ _ _ _ _ _ _
   | exact ih3 _ _ _ _ _ _ _ _
   | exact caesuraref11_all.mono _ _ _
   | exact caesuraref11_rises.mono _ _ _
   | exact LeO.none _
   | refine LeO.ite ?_ ?_
   | refine LeO.bind ?_ (fun _ => ?_)
  ·intro y0 y1 y2 y3 y4 y5 y6 y7 y8
   unfold caesuraref11_Check.l1
   repeat' first
   | (with_reducible exact ih0 _ _ _ _ _ _ _ _)
   | (with_reducible exact ih1 _ _ _ _ _ _ _ _ _)
   | (with_reducible exact ih2 _ _ _ _ _ _ _)
   | (with_reducible exact ih3 _ _ _ _ _ _ _ _)
   | (with_reducible exact caesuraref11_all.mono _ _ _)
   | (with_reducible exact caesuraref11_rises.mono _ _ _)
   | (with_reducible exact LeO.refl _)
   | (with_reducible exact LeO.none _)
   | (with_reducible refine LeO.ite ?_ ?_)
   | (with_reducible refine LeO.bind ?_ (fun _ => ?_))
   | exact ih0 _ _ _ _ _ _ _ _
   | exact ih1 _ _ _ _ _ _ _ _ _
   | exact ih2 _ _ _ _ _ _ _
   | exact ih3 _ _ _ _ _ _ _ _
   | exact caesuraref11_all.mono _ _ _
   | exact caesuraref11_rises.mono _ _ _
   | exact LeO.none _
   | refine LeO.ite ?_ ?_
   | refine LeO.bind ?_ (fun _ => ?_)
  ·intro y0 y1 y2 y3 y4 y5 y6
   unfold caesuraref11_Check.j2
   repeat' first
   | (with_reducible exact ih0 _ _ _ _ _ _ _ _)
   | (with_reducible exact ih1 _ _ _ _ _ _ _ _ _)
   | (with_reducible exact ih2 _ _ _ _ _ _ _)
   | (with_reducible exact ih3 _ _ _ _ _ _ _ _)
   | (with_reducible exact caesuraref11_all.mono _ _ _)
   | (with_reducible exact caesuraref11_rises.mono _ _ _)
   | (with_reducible exact LeO.refl _)
   | (with_reducible exact LeO.none _)
   | (with_reducible refine LeO.ite ?_ ?_)
   | (with_reducible refine LeO.bind ?_ (fun _ => ?_))
   | exact ih0 _ _ _ _ _ _ _ _
   | exact ih1 _ _ _ _ _ _ _ _ _
   | exact ih2 _ _ _ _ _ _ _
   | exact ih3 _ _ _ _ _ _ _ _
   | exact caesuraref11_all.mono _ _ _
   | exact caesuraref11_rises.mono _ _ _
   | exact LeO.none _
   | refine LeO.ite ?_ ?_
   | refine LeO.bind ?_ (fun _ => ?_)
  ·intro y0 y1 y2 y3 y4 y5 y6 y7
   unfold caesuraref11_Check.j3
   repeat' first
   | (with_reducible exact ih0 _ _ _ _ _ _ _ _)
   | (with_reducible exact ih1 _ _ _ _ _ _ _ _ _)
   | (with_reducible exact ih2 _ _ _ _ _ _ _)
   | (with_reducible exact ih3 _ _ _ _ _ _ _ _)
   | (with_reducible exact caesuraref11_all.mono _ _ _)
   | (with_reducible exact caesuraref11_rises.mono _ _ _)
   | (with_reducible exact LeO.refl _)
   | (with_reducible exact LeO.none _)
   | (with_reducible refine LeO.ite ?_ ?_)
   | (with_reducible refine LeO.bind ?_ (fun _ => ?_))
   | exact ih0 _ _ _ _ _ _ _ _
   | exact ih1 _ _ _ _ _ _ _ _ _
   | exact ih2 _ _ _ _ _ _ _
   | exact ih3 _ _ _ _ _ _ _ _
   | exact caesuraref11_all.mono _ _ _
   | exact caesuraref11_rises.mono _ _ _
   | exact LeO.none _
   | refine LeO.ite ?_ ?_
   | refine LeO.bind ?_ (fun _ => ?_)
theorem caesuraref11_Check.mono : ∀ a0 a1 a2 a3 a4 a5 k, LeO (caesuraref11_Check.f k a0 a1 a2 a3 a4 a5) (caesuraref11_Check.f (k + 1) a0 a1 a2 a3 a4 a5) := by
 intro a0 a1 a2 a3 a4 a5 k
 obtain ⟨ih0, ih1, ih2, ih3⟩ := caesuraref11_Check.mono_l k
 unfold caesuraref11_Check.f
 repeat' first
   | (with_reducible exact ih0 _ _ _ _ _ _ _ _)
   | (with_reducible exact ih1 _ _ _ _ _ _ _ _ _)
   | (with_reducible exact ih2 _ _ _ _ _ _ _)
   | (with_reducible exact ih3 _ _ _ _ _ _ _ _)
   | (with_reducible exact caesuraref11_all.mono _ _ _)
   | (with_reducible exact caesuraref11_rises.mono _ _ _)
   | (with_reducible exact LeO.refl _)
   | (with_reducible exact LeO.none _)
   | (with_reducible refine LeO.ite ?_ ?_)
   | (with_reducible refine LeO.bind ?_ (fun _ => ?_))
   | exact ih0 _ _ _ _ _ _ _ _
   | exact ih1 _ _ _ _ _ _ _ _ _
   | exact ih2 _ _ _ _ _ _ _
   | exact ih3 _ _ _ _ _ _ _ _
   | exact caesuraref11_all.mono _ _ _
   | exact caesuraref11_rises.mono _ _ _
   | exact LeO.none _
   | refine LeO.ite ?_ ?_
   | refine LeO.bind ?_ (fun _ => ?_)
set_option maxHeartbeats 8000000 in
set_option maxRecDepth 100000 in
theorem caesuraref11_Check.calls (k : Nat) (A0_0 : Option Addr) (c0_0 : Nat) (l0_0 : List (List Int)) (A0_1 : Option Addr) (c0_1 : Nat) (l0_1 : List Int) (A0_2 : Option Addr) (c0_2 : Nat) (l0_2 : List Int) (A0_3 : Option Addr) (c0_3 : Nat) (l0_3 : List (List Int)) (a0_4 : Bool) (a1 : Int) (r : Int) (w : World) (hr0_0 : Kd.C (Kd.slice 3 (Kd.int .i64)) w A0_0 l0_0.length l0_0) (hc0_0 : l0_0.length ≤ c0_0) (hr0_1 : Kd.C (Kd.int .i64) w A0_1 l0_1.length l0_1) (hc0_1 : l0_1.length ≤ c0_1) (hr0_2 : Kd.C (Kd.int .i64) w A0_2 l0_2.length l0_2) (hc0_2 : l0_2.length ≤ c0_2) (hr0_3 : Kd.C (Kd.slice 3 (Kd.int .i64)) w A0_3 l0_3.length l0_3) (hc0_3 : l0_3.length ≤ c0_3) (h : caesuraref11_Check.f k l0_0 l0_1 l0_2 l0_3 a0_4 a1 = some r) :
  Calls Tryd.prog 29 #[.agg #[.slice A0_0 l0_0.length c0_0, .slice A0_1 l0_1.length c0_1, .slice A0_2 l0_2.length c0_2, .slice A0_3 l0_3.length c0_3, .bool a0_4], .int .i64 a1] w fun e w' => e = .returned (.int .i64 r) ∧ Below w.heap.size w w' := by
 have hu42 := Tryd.underlying42
 have HR0_0 := Aside0.mk hr0_0
 have HC0_0 := Aside0.mk hc0_0
 clear hr0_0 hc0_0
 have HR0_1 := Aside0.mk hr0_1
 have HC0_1 := Aside0.mk hc0_1
 clear hr0_1 hc0_1
 have HR0_2 := Aside0.mk hr0_2
 have HC0_2 := Aside0.mk hc0_2
 clear hr0_2 hc0_2
 have HR0_3 := Aside0.mk hr0_3
 have HC0_3 := Aside0.mk hc0_3
 clear hr0_3 hc0_3
 have HB := Aside0.mk (Below.refl w.heap.size w)
 have H : (caesuraref11_Check.l0 k a1 0 0 l0_0 l0_1 l0_2 l0_3 a0_4) = some r := h
 clear h
 have H' := Aside0.mk H
 clear H
 go_enter Tryd.func29, Tryd.ntmps29
 go_wp2_with (first | ((with_reducible refine gate_dst (N := 2) rfl ?_); (try (refine gate_guard (by rfl) ?_; dsimp only)); refine box_event ?hg (N := 2) ?hd (cs := #[.slice A0_0 l0_0.length c0_0, .slice A0_1 l0_1.length c0_1, .slice A0_2 l0_2.length c0_2, .slice A0_3 l0_3.length c0_3, .bool a0_4]) (t := 42) ?hr ?_; (case hd => rfl); (case hg => rfl); (case hr => first | (go_simp; done) | (go_simp; rfl)); intro gb354 hg w3 hbox hb; have n0_ := Aside0.mk (below_step (by repeat (first | (with_reducible first | exact HB.out | apply below_alloc | apply pw_below_drewN | apply below_drew1) | exact HB.out)) hb); have n1_ := Aside0.mk (hbox); have n2_ := Aside0.mk ((by rw [hg]; exact (below_size (by repeat (first | (with_reducible first | exact HB.out | apply below_alloc | apply pw_below_drewN | apply below_drew1) | exact HB.out))) : w.heap.size ≤ gb354)); have n3_ := Aside0.mk ((by rw [hg]; exact (below_size (by repeat (first | (with_reducible first | exact HB.out | apply below_alloc | apply pw_below_drewN | apply below_drew1) | exact HB.out))) : w.heap.size ≤ gb354)); clear HB; have HB := n0_; have BK354 := n1_; have GW354 := n2_; have GE354 := n3_; clear n0_ n1_ n2_ n3_; clear hb hbox hg))
 go_loopg [5, 6] k (fun kq v5 v6 w' => ∃ (x5_1 : Int) (x6_1 : Int), v5 = .int .i64 x5_1 ∧ v6 = .int .i64 x6_1 ∧ Aside0 (caesuraref11_Check.l0 kq a1 x5_1 x6_1 l0_0 l0_1 l0_2 l0_3 a0_4 = some r) ∧ Aside0 (kq ≤ k) ∧ Aside0 (w'.heap[gb354]? = some (.cells #[(.slice A0_0 l0_0.length c0_0), (.slice A0_1 l0_1.length c0_1), (.slice A0_2 l0_2.length c0_2), (.slice A0_3 l0_3.length c0_3), .bool a0_4] 42 (0, 0))) ∧ Aside0 (Below w.heap.size w w'))
 case atStart => exact ⟨(0), (0), (by first | rfl | (simp; done) | (simp [*]; done)), (by first | rfl | (simp; done) | (simp [*]; done)), H', ⟨Nat.le_refl _⟩, ⟨by (with_reducible repeat (first | refine blk_drewN ?_ _ | refine blk_drew ?_ | refine blk_alloc ?_ _)); exact BK354.out⟩, ⟨by repeat (first | (with_reducible first | exact HB.out | apply below_alloc | apply pw_below_drewN | apply below_drew1 | refine below_set ?_ GE354.out) | exact HB.out)⟩⟩
 case round =>
  clear H'
  try clear c2
  try clear p2
  obtain ⟨x5_1, x6_1, rfl, rfl, HA, HK1, BK354, HB⟩ := hrel
  cases gk with
  | zero => exact absurd HA.out (by simp [caesuraref11_Check.l0])
  | succ k1 =>
   have H := HA.out
   clear HA
   simp only [caesuraref11_Check.l0] at H
   by_cases c4 : x6_1 < (l0_3.length : Int)
   ·rw [if_pos c4] at H
    have c4b0 : decide (x6_1 < (l0_3.length : Int)) = true := decide_eq_true c4
    clear c4
    by_cases c5 : 0 ≤ x6_1
    ·rw [if_pos c5] at H
     have c5b0 : decide (0 ≤ x6_1) = true := decide_eq_true c5
     clear c5
     have H' := Aside0.mk H
     clear H
     have hcz6_0 : wr.cell? ⟨gb354, 0, none⟩ = some (.slice A0_0 l0_0.length c0_0) := (blk_cell BK354.out 0).trans rfl
     have hcz6_1 : wr.cell? ⟨gb354, 1, none⟩ = some (.slice A0_1 l0_1.length c0_1) := (blk_cell BK354.out 1).trans rfl
     have hcz6_2 : wr.cell? ⟨gb354, 2, none⟩ = some (.slice A0_2 l0_2.length c0_2) := (blk_cell BK354.out 2).trans rfl
     have hcz6_3 : wr.cell? ⟨gb354, 3, none⟩ = some (.slice A0_3 l0_3.length c0_3) := (blk_cell BK354.out 3).trans rfl
     have hcz6_4 : wr.cell? ⟨gb354, 4, none⟩ = some (.bool a0_4) := (blk_cell BK354.out 4).trans rfl
     have hfz6_0 := blk_frozen BK354.out 0
     have hfz6_1 := blk_frozen BK354.out 1
     have hfz6_2 := blk_frozen BK354.out 2
     have hfz6_3 := blk_frozen BK354.out 3
     have hfz6_4 := blk_frozen BK354.out 4
     have p355 : 0 ≤ (x6_1 : Int) := of_decide_eq_true (by first | (with_reducible assumption) | assumption)
     have q355 : x6_1 < (l0_3.length : Int) := of_decide_eq_true (by first | (with_reducible assumption) | assumption)
     obtain ⟨ad355, A355_0, c355_0, e355, hx355_0, hl355_0, hi355_0⟩ := at_L1 HR0_3.out x6_1 p355 q355
     cases e355
     replace hx355_0 := (HB.out.cell (World.block_lt_of_cell? w _ hx355_0)).trans hx355_0
     have HR355_0 := Aside0.mk hi355_0
     have HC355_0 := Aside0.mk hl355_0
     clear hi355_0 hl355_0
     replace p355 := eq_true p355
     replace q355 := eq_true q355
     go_wp2
     go_roundg k1
     case measure => have := HK1.out; omega
     case rel => exact ⟨(wrap64 (x5_1 + ((rd_L1 l0_3 x6_1).length : Int))), (wrap64 (x6_1 + 1)), (by first | rfl | (simp; done) | (simp [*]; done)), (by first | rfl | (simp; done) | (simp [*]; done)), H', ⟨by have := HK1.out; omega⟩, ⟨by (with_reducible repeat (first | refine blk_drewN ?_ _ | refine blk_drew ?_ | refine blk_alloc ?_ _)); exact BK354.out⟩, ⟨by repeat (first | (with_reducible first | exact HB.out | apply below_alloc | apply pw_below_drewN | apply below_drew1 | refine below_set ?_ GE354.out) | exact HB.out)⟩⟩
    ·rw [if_neg c5] at H
     exact absurd H (by simp)
   ·rw [if_neg c4] at H
    have c4b0 : decide (x6_1 < (l0_3.length : Int)) = false := decide_eq_false c4
    clear c4
    have H' := Aside0.mk H
    clear H
    have hcz7_0 : wr.cell? ⟨gb354, 0, none⟩ = some (.slice A0_0 l0_0.length c0_0) := (blk_cell BK354.out 0).trans rfl
    have hcz7_1 : wr.cell? ⟨gb354, 1, none⟩ = some (.slice A0_1 l0_1.length c0_1) := (blk_cell BK354.out 1).trans rfl
    have hcz7_2 : wr.cell? ⟨gb354, 2, none⟩ = some (.slice A0_2 l0_2.length c0_2) := (blk_cell BK354.out 2).trans rfl
    have hcz7_3 : wr.cell? ⟨gb354, 3, none⟩ = some (.slice A0_3 l0_3.length c0_3) := (blk_cell BK354.out 3).trans rfl
    have hcz7_4 : wr.cell? ⟨gb354, 4, none⟩ = some (.bool a0_4) := (blk_cell BK354.out 4).trans rfl
    have hfz7_0 := blk_frozen BK354.out 0
    have hfz7_1 := blk_frozen BK354.out 1
    have hfz7_2 := blk_frozen BK354.out 2
    have hfz7_3 := blk_frozen BK354.out 3
    have hfz7_4 := blk_frozen BK354.out 4
    go_wp2
    go_loopg [7, 8] k1 (fun kq v7 v8 w' => ∃ (x7_2 : Int) (x8_2 : Int), v7 = .int .i64 x7_2 ∧ v8 = .int .i64 x8_2 ∧ Aside0 (caesuraref11_Check.l1 kq a1 x5_1 x7_2 x8_2 l0_0 l0_1 l0_2 l0_3 a0_4 = some r) ∧ Aside0 (kq ≤ k1) ∧ Aside0 (w'.heap[gb354]? = some (.cells #[(.slice A0_0 l0_0.length c0_0), (.slice A0_1 l0_1.length c0_1), (.slice A0_2 l0_2.length c0_2), (.slice A0_3 l0_3.length c0_3), .bool a0_4] 42 (0, 0))) ∧ Aside0 (Below w.heap.size w w'))
    case atStart => exact ⟨(0), (0), (by first | rfl | (simp; done) | (simp [*]; done)), (by first | rfl | (simp; done) | (simp [*]; done)), H', ⟨Nat.le_refl _⟩, ⟨by (with_reducible repeat (first | refine blk_drewN ?_ _ | refine blk_drew ?_ | refine blk_alloc ?_ _)); exact BK354.out⟩, ⟨by repeat (first | (with_reducible first | exact HB.out | apply below_alloc | apply pw_below_drewN | apply below_drew1 | refine below_set ?_ GE354.out) | exact HB.out)⟩⟩
    case round =>
     clear H'
     try clear c2
     try clear p2
     try clear c3
     try clear p3
     try clear q3
     try clear hx3
     try clear c4
     try clear c4b0
     try clear c5
     try clear c5b0
     try clear p6
     try clear hcz6_0
     try clear hcz6_1
     try clear hcz6_2
     try clear hcz6_3
     try clear hcz6_4
     try clear hcz7_0
     try clear hcz7_1
     try clear hcz7_2
     try clear hcz7_3
     try clear hcz7_4
     try clear hfz6_0
     try clear hfz6_1
     try clear hfz6_2
     try clear hfz6_3
     try clear hfz6_4
     try clear hfz7_0
     try clear hfz7_1
     try clear hfz7_2
     try clear hfz7_3
     try clear hfz7_4
     try clear hx355_0
     try clear p2
     try clear p355
     try clear q355
     obtain ⟨x7_2, x8_2, rfl, rfl, HA, HK2, BK354, HB⟩ := hrel
     cases gk with
     | zero => exact absurd HA.out (by simp [caesuraref11_Check.l1])
     | succ k2 =>
      have H := HA.out
      clear HA
      simp only [caesuraref11_Check.l1] at H
      by_cases c8 : x8_2 < (l0_0.length : Int)
      ·rw [if_pos c8] at H
       have c8b0 : decide (x8_2 < (l0_0.length : Int)) = true := decide_eq_true c8
       clear c8
       by_cases c9 : 0 ≤ x8_2
       ·rw [if_pos c9] at H
        have c9b0 : decide (0 ≤ x8_2) = true := decide_eq_true c9
        clear c9
        have H' := Aside0.mk H
        clear H
        have hcz10_0 : wr.cell? ⟨gb354, 0, none⟩ = some (.slice A0_0 l0_0.length c0_0) := (blk_cell BK354.out 0).trans rfl
        have hcz10_1 : wr.cell? ⟨gb354, 1, none⟩ = some (.slice A0_1 l0_1.length c0_1) := (blk_cell BK354.out 1).trans rfl
        have hcz10_2 : wr.cell? ⟨gb354, 2, none⟩ = some (.slice A0_2 l0_2.length c0_2) := (blk_cell BK354.out 2).trans rfl
        have hcz10_3 : wr.cell? ⟨gb354, 3, none⟩ = some (.slice A0_3 l0_3.length c0_3) := (blk_cell BK354.out 3).trans rfl
        have hcz10_4 : wr.cell? ⟨gb354, 4, none⟩ = some (.bool a0_4) := (blk_cell BK354.out 4).trans rfl
        have hfz10_0 := blk_frozen BK354.out 0
        have hfz10_1 := blk_frozen BK354.out 1
        have hfz10_2 := blk_frozen BK354.out 2
        have hfz10_3 := blk_frozen BK354.out 3
        have hfz10_4 := blk_frozen BK354.out 4
        have p356 : 0 ≤ (x8_2 : Int) := of_decide_eq_true (by first | (with_reducible assumption) | assumption)
        have q356 : x8_2 < (l0_0.length : Int) := of_decide_eq_true (by first | (with_reducible assumption) | assumption)
        obtain ⟨ad356, A356_0, c356_0, e356, hx356_0, hl356_0, hi356_0⟩ := at_L1 HR0_0.out x8_2 p356 q356
        cases e356
        replace hx356_0 := (HB.out.cell (World.block_lt_of_cell? w _ hx356_0)).trans hx356_0
        have HR356_0 := Aside0.mk hi356_0
        have HC356_0 := Aside0.mk hl356_0
        clear hi356_0 hl356_0
        replace p356 := eq_true p356
        replace q356 := eq_true q356
        go_wp2
        go_roundg k2
        case measure => have := HK1.out; have := HK2.out; omega
        case rel => exact ⟨(wrap64 (x7_2 + ((rd_L1 l0_0 x8_2).length : Int))), (wrap64 (x8_2 + 1)), (by first | rfl | (simp; done) | (simp [*]; done)), (by first | rfl | (simp; done) | (simp [*]; done)), H', ⟨by have := HK1.out; have := HK2.out; omega⟩, ⟨by (with_reducible repeat (first | refine blk_drewN ?_ _ | refine blk_drew ?_ | refine blk_alloc ?_ _)); exact BK354.out⟩, ⟨by repeat (first | (with_reducible first | exact HB.out | apply below_alloc | apply pw_below_drewN | apply below_drew1 | refine below_set ?_ GE354.out) | exact HB.out)⟩⟩
       ·rw [if_neg c9] at H
        exact absurd H (by simp)
      ·rw [if_neg c8] at H
       have c8b0 : decide (x8_2 < (l0_0.length : Int)) = false := decide_eq_false c8
       clear c8
       have HC11 := Aside0.mk H
       clear H
       have hcz12_0 : wr.cell? ⟨gb354, 0, none⟩ = some (.slice A0_0 l0_0.length c0_0) := (blk_cell BK354.out 0).trans rfl
       have hcz12_1 : wr.cell? ⟨gb354, 1, none⟩ = some (.slice A0_1 l0_1.length c0_1) := (blk_cell BK354.out 1).trans rfl
       have hcz12_2 : wr.cell? ⟨gb354, 2, none⟩ = some (.slice A0_2 l0_2.length c0_2) := (blk_cell BK354.out 2).trans rfl
       have hcz12_3 : wr.cell? ⟨gb354, 3, none⟩ = some (.slice A0_3 l0_3.length c0_3) := (blk_cell BK354.out 3).trans rfl
       have hcz12_4 : wr.cell? ⟨gb354, 4, none⟩ = some (.bool a0_4) := (blk_cell BK354.out 4).trans rfl
       have hfz12_0 := blk_frozen BK354.out 0
       have hfz12_1 := blk_frozen BK354.out 1
       have hfz12_2 := blk_frozen BK354.out 2
       have hfz12_3 := blk_frozen BK354.out 3
       have hfz12_4 := blk_frozen BK354.out 4
       go_upto_region 11 with (fail)
       go_cut [55] (fun v55 wc => ∃ (kq : Nat) (x55_10 : Bool), v55 = .bool x55_10 ∧ Aside0 (caesuraref11_Check.j2 kq a1 x55_10 l0_0 l0_1 l0_2 l0_3 a0_4 = some r) ∧ Aside0 (kq ≤ k2) ∧ Aside0 (wc.heap[gb354]? = some (.cells #[(.slice A0_0 l0_0.length c0_0), (.slice A0_1 l0_1.length c0_1), (.slice A0_2 l0_2.length c0_2), (.slice A0_3 l0_3.length c0_3), .bool a0_4] 42 (0, 0))) ∧ Aside0 (Below w.heap.size w wc))
       case first =>
        have H := HC11.out
        clear HC11
        by_cases c13 : (l0_0.length : Int) > 4000
        ·rw [if_pos c13] at H
         have c13b0 : decide (4000 < (l0_0.length : Int)) = true := decide_eq_true c13
         have c13b1 : decide (4000 < l0_0.length) = true := decide_eq_true (by omega)
         clear c13
         (first | rw [c13b0] | (simp only [i64_w, i32_w]; rw [c13b0]) | skip)
         have H' := Aside0.mk H
         clear H
         have hcz14_0 : wr.cell? ⟨gb354, 0, none⟩ = some (.slice A0_0 l0_0.length c0_0) := (blk_cell BK354.out 0).trans rfl
         have hcz14_1 : wr.cell? ⟨gb354, 1, none⟩ = some (.slice A0_1 l0_1.length c0_1) := (blk_cell BK354.out 1).trans rfl
         have hcz14_2 : wr.cell? ⟨gb354, 2, none⟩ = some (.slice A0_2 l0_2.length c0_2) := (blk_cell BK354.out 2).trans rfl
         have hcz14_3 : wr.cell? ⟨gb354, 3, none⟩ = some (.slice A0_3 l0_3.length c0_3) := (blk_cell BK354.out 3).trans rfl
         have hcz14_4 : wr.cell? ⟨gb354, 4, none⟩ = some (.bool a0_4) := (blk_cell BK354.out 4).trans rfl
         have hfz14_0 := blk_frozen BK354.out 0
         have hfz14_1 := blk_frozen BK354.out 1
         have hfz14_2 := blk_frozen BK354.out 2
         have hfz14_3 := blk_frozen BK354.out 3
         have hfz14_4 := blk_frozen BK354.out 4
         go_wp2
         go_meet
         case rel => exact ⟨_, (true), (by first | rfl | (simp; done) | (simp [*]; done)), H', ⟨by have := HK1.out; have := HK2.out; first | omega | exact Nat.le_refl _⟩, ⟨by (with_reducible repeat (first | refine blk_drewN ?_ _ | refine blk_drew ?_ | refine blk_alloc ?_ _)); exact BK354.out⟩, ⟨by repeat (first | (with_reducible first | exact HB.out | apply below_alloc | apply pw_below_drewN | apply below_drew1 | refine below_set ?_ GE354.out) | exact HB.out)⟩⟩
        ·rw [if_neg c13] at H
         have c13b0 : decide (4000 < (l0_0.length : Int)) = false := decide_eq_false c13
         have c13b1 : decide (4000 < l0_0.length) = false := decide_eq_false (by omega)
         clear c13
         (first | rw [c13b0] | (simp only [i64_w, i32_w]; rw [c13b0]) | skip)
         by_cases c15 : x7_2 > 4194304
         ·rw [if_pos c15] at H
          have c15b0 : decide (4194304 < x7_2) = true := decide_eq_true c15
          clear c15
          have H' := Aside0.mk H
          clear H
          have hcz16_0 : wr.cell? ⟨gb354, 0, none⟩ = some (.slice A0_0 l0_0.length c0_0) := (blk_cell BK354.out 0).trans rfl
          have hcz16_1 : wr.cell? ⟨gb354, 1, none⟩ = some (.slice A0_1 l0_1.length c0_1) := (blk_cell BK354.out 1).trans rfl
          have hcz16_2 : wr.cell? ⟨gb354, 2, none⟩ = some (.slice A0_2 l0_2.length c0_2) := (blk_cell BK354.out 2).trans rfl
          have hcz16_3 : wr.cell? ⟨gb354, 3, none⟩ = some (.slice A0_3 l0_3.length c0_3) := (blk_cell BK354.out 3).trans rfl
          have hcz16_4 : wr.cell? ⟨gb354, 4, none⟩ = some (.bool a0_4) := (blk_cell BK354.out 4).trans rfl
          have hfz16_0 := blk_frozen BK354.out 0
          have hfz16_1 := blk_frozen BK354.out 1
          have hfz16_2 := blk_frozen BK354.out 2
          have hfz16_3 := blk_frozen BK354.out 3
          have hfz16_4 := blk_frozen BK354.out 4
          go_wp2
          go_meet
          case rel => exact ⟨_, (true), (by first | rfl | (simp; done) | (simp [*]; done)), H', ⟨by have := HK1.out; have := HK2.out; first | omega | exact Nat.le_refl _⟩, ⟨by (with_reducible repeat (first | refine blk_drewN ?_ _ | refine blk_drew ?_ | refine blk_alloc ?_ _)); exact BK354.out⟩, ⟨by repeat (first | (with_reducible first | exact HB.out | apply below_alloc | apply pw_below_drewN | apply below_drew1 | refine below_set ?_ GE354.out) | exact HB.out)⟩⟩
         ·rw [if_neg c15] at H
          have c15b0 : decide (4194304 < x7_2) = false := decide_eq_false c15
          clear c15
          have H' := Aside0.mk H
          clear H
          have hcz17_0 : wr.cell? ⟨gb354, 0, none⟩ = some (.slice A0_0 l0_0.length c0_0) := (blk_cell BK354.out 0).trans rfl
          have hcz17_1 : wr.cell? ⟨gb354, 1, none⟩ = some (.slice A0_1 l0_1.length c0_1) := (blk_cell BK354.out 1).trans rfl
          have hcz17_2 : wr.cell? ⟨gb354, 2, none⟩ = some (.slice A0_2 l0_2.length c0_2) := (blk_cell BK354.out 2).trans rfl
          have hcz17_3 : wr.cell? ⟨gb354, 3, none⟩ = some (.slice A0_3 l0_3.length c0_3) := (blk_cell BK354.out 3).trans rfl
          have hcz17_4 : wr.cell? ⟨gb354, 4, none⟩ = some (.bool a0_4) := (blk_cell BK354.out 4).trans rfl
          have hfz17_0 := blk_frozen BK354.out 0
          have hfz17_1 := blk_frozen BK354.out 1
          have hfz17_2 := blk_frozen BK354.out 2
          have hfz17_3 := blk_frozen BK354.out 3
          have hfz17_4 := blk_frozen BK354.out 4
          go_wp2
          go_meet
          case rel => exact ⟨_, (decide (x5_1 > 1048576)), (by first | rfl | (simp; done) | (simp [*]; done)), H', ⟨by have := HK1.out; have := HK2.out; first | omega | exact Nat.le_refl _⟩, ⟨by (with_reducible repeat (first | refine blk_drewN ?_ _ | refine blk_drew ?_ | refine blk_alloc ?_ _)); exact BK354.out⟩, ⟨by repeat (first | (with_reducible first | exact HB.out | apply below_alloc | apply pw_below_drewN | apply below_drew1 | refine below_set ?_ GE354.out) | exact HB.out)⟩⟩
       case rest =>
        clear HC11
        try clear c1
        try clear c2
        try clear p2
        try clear c3
        try clear p3
        try clear q3
        try clear hx3
        try clear c4
        try clear c4b0
        try clear c5
        try clear c5b0
        try clear p6
        try clear c8
        try clear c8b0
        try clear c9
        try clear c9b0
        try clear c13
        try clear c13b0
        try clear c13b1
        try clear c15
        try clear c15b0
        try clear hcz10_0
        try clear hcz10_1
        try clear hcz10_2
        try clear hcz10_3
        try clear hcz10_4
        try clear hcz12_0
        try clear hcz12_1
        try clear hcz12_2
        try clear hcz12_3
        try clear hcz12_4
        try clear hcz14_0
        try clear hcz14_1
        try clear hcz14_2
        try clear hcz14_3
        try clear hcz14_4
        try clear hcz16_0
        try clear hcz16_1
        try clear hcz16_2
        try clear hcz16_3
        try clear hcz16_4
        try clear hcz17_0
        try clear hcz17_1
        try clear hcz17_2
        try clear hcz17_3
        try clear hcz17_4
        try clear hcz6_0
        try clear hcz6_1
        try clear hcz6_2
        try clear hcz6_3
        try clear hcz6_4
        try clear hcz7_0
        try clear hcz7_1
        try clear hcz7_2
        try clear hcz7_3
        try clear hcz7_4
        try clear hfz10_0
        try clear hfz10_1
        try clear hfz10_2
        try clear hfz10_3
        try clear hfz10_4
        try clear hfz12_0
        try clear hfz12_1
        try clear hfz12_2
        try clear hfz12_3
        try clear hfz12_4
        try clear hfz14_0
        try clear hfz14_1
        try clear hfz14_2
        try clear hfz14_3
        try clear hfz14_4
        try clear hfz16_0
        try clear hfz16_1
        try clear hfz16_2
        try clear hfz16_3
        try clear hfz16_4
        try clear hfz17_0
        try clear hfz17_1
        try clear hfz17_2
        try clear hfz17_3
        try clear hfz17_4
        try clear hfz6_0
        try clear hfz6_1
        try clear hfz6_2
        try clear hfz6_3
        try clear hfz6_4
        try clear hfz7_0
        try clear hfz7_1
        try clear hfz7_2
        try clear hfz7_3
        try clear hfz7_4
        try clear hx355_0
        try clear hx356_0
        try clear p2
        try clear p3
        try clear p355
        try clear p356
        try clear p6
        try clear q3
        try clear q355
        try clear q356
        obtain ⟨kq, x55_10, rfl, HA, HJ10, BK354, HB⟩ := hcut
        cases kq with
        | zero => exact absurd HA.out (by simp [caesuraref11_Check.j2])
        | succ kj10 =>
         have H := HA.out
         clear HA
         simp only [caesuraref11_Check.j2] at H
         by_cases c18 : x55_10 = true
         ·subst c18
          have H1 : (some 3) = some r := by rw [if_pos rfl] at H; exact H
          clear H
          have H := H1
          clear H1
          obtain rfl := Option.some.inj H
          go_wp2
          go_ret
          exact ⟨by first | rfl | (simp [errW_none, errW_some] <;> rfl) | (simp [*, errW_none, errW_some] <;> rfl), by repeat (first | (with_reducible first | exact HB.out | apply below_alloc | apply pw_below_drewN | apply below_drew1 | refine below_set ?_ GE354.out) | exact HB.out)⟩
         ·replace c18 := Bool.eq_false_iff.mpr c18
          subst c18
          have H1 : (if a1 < 1 then (caesuraref11_Check.j3 kj10 a1 (l0_0.length : Int) true l0_0 l0_1 l0_2 l0_3 a0_4) else (if a1 > 16384 then (caesuraref11_Check.j3 kj10 a1 (l0_0.length : Int) true l0_0 l0_1 l0_2 l0_3 a0_4) else (caesuraref11_Check.j3 kj10 a1 (l0_0.length : Int) ((l0_3.length : Int) != (l0_0.length : Int)) l0_0 l0_1 l0_2 l0_3 a0_4))) = some r := by rw [if_neg (show ¬ (false = true) by decide)] at H; exact H
          clear H
          have H := H1
          clear H1
          have HC19 := Aside0.mk H
          clear H
          have hcz20_0 : wc.cell? ⟨gb354, 0, none⟩ = some (.slice A0_0 l0_0.length c0_0) := (blk_cell BK354.out 0).trans rfl
          have hcz20_1 : wc.cell? ⟨gb354, 1, none⟩ = some (.slice A0_1 l0_1.length c0_1) := (blk_cell BK354.out 1).trans rfl
          have hcz20_2 : wc.cell? ⟨gb354, 2, none⟩ = some (.slice A0_2 l0_2.length c0_2) := (blk_cell BK354.out 2).trans rfl
          have hcz20_3 : wc.cell? ⟨gb354, 3, none⟩ = some (.slice A0_3 l0_3.length c0_3) := (blk_cell BK354.out 3).trans rfl
          have hcz20_4 : wc.cell? ⟨gb354, 4, none⟩ = some (.bool a0_4) := (blk_cell BK354.out 4).trans rfl
          have hfz20_0 := blk_frozen BK354.out 0
          have hfz20_1 := blk_frozen BK354.out 1
          have hfz20_2 := blk_frozen BK354.out 2
          have hfz20_3 := blk_frozen BK354.out 3
          have hfz20_4 := blk_frozen BK354.out 4
          go_upto_region 14 with (fail)
          go_cut [71] (fun v71 wc => ∃ (kq : Nat) (x71_18 : Bool), v71 = .bool x71_18 ∧ Aside0 (caesuraref11_Check.j3 kq a1 (l0_0.length : Int) x71_18 l0_0 l0_1 l0_2 l0_3 a0_4 = some r) ∧ Aside0 (kq ≤ kj10) ∧ Aside0 (wc.heap[gb354]? = some (.cells #[(.slice A0_0 l0_0.length c0_0), (.slice A0_1 l0_1.length c0_1), (.slice A0_2 l0_2.length c0_2), (.slice A0_3 l0_3.length c0_3), .bool a0_4] 42 (0, 0))) ∧ Aside0 (Below w.heap.size w wc))
          case first =>
           have H := HC19.out
           clear HC19
           by_cases c21 : a1 < 1
           ·rw [if_pos c21] at H
            have c21b0 : decide (a1 < 1) = true := decide_eq_true c21
            clear c21
            (first | rw [c21b0] | (simp only [i64_w, i32_w]; rw [c21b0]) | skip)
            have H' := Aside0.mk H
            clear H
            go_wp2
            go_meet
            case rel => exact ⟨_, (true), (by first | rfl | (simp; done) | (simp [*]; done)), H', ⟨by have := HK1.out; have := HK2.out; have := HJ10.out; first | omega | exact Nat.le_refl _⟩, ⟨by (with_reducible repeat (first | refine blk_drewN ?_ _ | refine blk_drew ?_ | refine blk_alloc ?_ _)); exact BK354.out⟩, ⟨by repeat (first | (with_reducible first | exact HB.out | apply below_alloc | apply pw_below_drewN | apply below_drew1 | refine below_set ?_ GE354.out) | exact HB.out)⟩⟩
           ·rw [if_neg c21] at H
            have c21b0 : decide (a1 < 1) = false := decide_eq_false c21
            clear c21
            (first | rw [c21b0] | (simp only [i64_w, i32_w]; rw [c21b0]) | skip)
            by_cases c22 : a1 > 16384
            ·rw [if_pos c22] at H
             have c22b0 : decide (16384 < a1) = true := decide_eq_true c22
             clear c22
             have H' := Aside0.mk H
             clear H
             go_wp2
             go_meet
             case rel => exact ⟨_, (true), (by first | rfl | (simp; done) | (simp [*]; done)), H', ⟨by have := HK1.out; have := HK2.out; have := HJ10.out; first | omega | exact Nat.le_refl _⟩, ⟨by (with_reducible repeat (first | refine blk_drewN ?_ _ | refine blk_drew ?_ | refine blk_alloc ?_ _)); exact BK354.out⟩, ⟨by repeat (first | (with_reducible first | exact HB.out | apply below_alloc | apply pw_below_drewN | apply below_drew1 | refine below_set ?_ GE354.out) | exact HB.out)⟩⟩
            ·rw [if_neg c22] at H
             have c22b0 : decide (16384 < a1) = false := decide_eq_false c22
             clear c22
             have H' := Aside0.mk H
             clear H
             have hcz23_0 : wc.cell? ⟨gb354, 0, none⟩ = some (.slice A0_0 l0_0.length c0_0) := (blk_cell BK354.out 0).trans rfl
             have hcz23_1 : wc.cell? ⟨gb354, 1, none⟩ = some (.slice A0_1 l0_1.length c0_1) := (blk_cell BK354.out 1).trans rfl
             have hcz23_2 : wc.cell? ⟨gb354, 2, none⟩ = some (.slice A0_2 l0_2.length c0_2) := (blk_cell BK354.out 2).trans rfl
             have hcz23_3 : wc.cell? ⟨gb354, 3, none⟩ = some (.slice A0_3 l0_3.length c0_3) := (blk_cell BK354.out 3).trans rfl
             have hcz23_4 : wc.cell? ⟨gb354, 4, none⟩ = some (.bool a0_4) := (blk_cell BK354.out 4).trans rfl
             have hfz23_0 := blk_frozen BK354.out 0
             have hfz23_1 := blk_frozen BK354.out 1
             have hfz23_2 := blk_frozen BK354.out 2
             have hfz23_3 := blk_frozen BK354.out 3
             have hfz23_4 := blk_frozen BK354.out 4
             go_wp2
             go_meet
             case rel => exact ⟨_, (((l0_3.length : Int) != (l0_0.length : Int))), (by first | rfl | (simp; done) | (simp [*]; done)), H', ⟨by have := HK1.out; have := HK2.out; have := HJ10.out; first | omega | exact Nat.le_refl _⟩, ⟨by (with_reducible repeat (first | refine blk_drewN ?_ _ | refine blk_drew ?_ | refine blk_alloc ?_ _)); exact BK354.out⟩, ⟨by repeat (first | (with_reducible first | exact HB.out | apply below_alloc | apply pw_below_drewN | apply below_drew1 | refine below_set ?_ GE354.out) | exact HB.out)⟩⟩
          case rest =>
           clear HC19
           try clear c1
           try clear c2
           try clear p2
           try clear c3
           try clear p3
           try clear q3
           try clear hx3
           try clear c4
           try clear c4b0
           try clear c5
           try clear c5b0
           try clear p6
           try clear c8
           try clear c8b0
           try clear c9
           try clear c9b0
           try clear c13
           try clear c13b0
           try clear c13b1
           try clear c15
           try clear c15b0
           try clear c18
           try clear c21
           try clear c21b0
           try clear c22
           try clear c22b0
           try clear hcz10_0
           try clear hcz10_1
           try clear hcz10_2
           try clear hcz10_3
           try clear hcz10_4
           try clear hcz12_0
           try clear hcz12_1
           try clear hcz12_2
           try clear hcz12_3
           try clear hcz12_4
           try clear hcz14_0
           try clear hcz14_1
           try clear hcz14_2
           try clear hcz14_3
           try clear hcz14_4
           try clear hcz16_0
           try clear hcz16_1
           try clear hcz16_2
           try clear hcz16_3
           try clear hcz16_4
           try clear hcz17_0
           try clear hcz17_1
           try clear hcz17_2
           try clear hcz17_3
           try clear hcz17_4
           try clear hcz20_0
           try clear hcz20_1
           try clear hcz20_2
           try clear hcz20_3
           try clear hcz20_4
           try clear hcz23_0
           try clear hcz23_1
           try clear hcz23_2
           try clear hcz23_3
           try clear hcz23_4
           try clear hcz6_0
           try clear hcz6_1
           try clear hcz6_2
           try clear hcz6_3
           try clear hcz6_4
           try clear hcz7_0
           try clear hcz7_1
           try clear hcz7_2
           try clear hcz7_3
           try clear hcz7_4
           try clear hfz10_0
           try clear hfz10_1
           try clear hfz10_2
           try clear hfz10_3
           try clear hfz10_4
           try clear hfz12_0
           try clear hfz12_1
           try clear hfz12_2
           try clear hfz12_3
           try clear hfz12_4
           try clear hfz14_0
           try clear hfz14_1
           try clear hfz14_2
           try clear hfz14_3
           try clear hfz14_4
           try clear hfz16_0
           try clear hfz16_1
           try clear hfz16_2
           try clear hfz16_3
           try clear hfz16_4
           try clear hfz17_0
           try clear hfz17_1
           try clear hfz17_2
           try clear hfz17_3
           try clear hfz17_4
           try clear hfz20_0
           try clear hfz20_1
           try clear hfz20_2
           try clear hfz20_3
           try clear hfz20_4
           try clear hfz23_0
           try clear hfz23_1
           try clear hfz23_2
           try clear hfz23_3
           try clear hfz23_4
           try clear hfz6_0
           try clear hfz6_1
           try clear hfz6_2
           try clear hfz6_3
           try clear hfz6_4
           try clear hfz7_0
           try clear hfz7_1
           try clear hfz7_2
           try clear hfz7_3
           try clear hfz7_4
           try clear hx355_0
           try clear hx356_0
           try clear p2
           try clear p3
           try clear p355
           try clear p356
           try clear p6
           try clear q3
           try clear q355
           try clear q356
           obtain ⟨kq, x71_18, rfl, HA, HJ18, BK354, HB⟩ := hcut
           cases kq with
           | zero => exact absurd HA.out (by simp [caesuraref11_Check.j3])
           | succ kj18 =>
            have H := HA.out
            clear HA
            simp only [caesuraref11_Check.j3] at H
            by_cases c24 : x71_18 = true
            ·subst c24
             have H1 : (some 1) = some r := by rw [if_pos rfl] at H; exact H
             clear H
             have H := H1
             clear H1
             obtain rfl := Option.some.inj H
             go_wp2
             go_ret
             exact ⟨by first | rfl | (simp [errW_none, errW_some] <;> rfl) | (simp [*, errW_none, errW_some] <;> rfl), by repeat (first | (with_reducible first | exact HB.out | apply below_alloc | apply pw_below_drewN | apply below_drew1 | refine below_set ?_ GE354.out) | exact HB.out)⟩
            ·replace c24 := Bool.eq_false_iff.mpr c24
             subst c24
             have H1 : ((caesuraref11_all.f kj18 l0_0 a1).bind fun t357 => ((caesuraref11_all.f kj18 l0_3 (l0_0.length : Int)).bind fun t358 => ((caesuraref11_rises.f kj18 l0_1 (l0_0.length : Int)).bind fun t359 => ((caesuraref11_rises.f kj18 l0_2 (l0_0.length : Int)).bind fun t360 => (if t357 = true then (if t358 = true then (if t359 = true then (if t360 = true then (some 0) else (some 1)) else (some 1)) else (some 1)) else (some 1)))))) = some r := by rw [if_neg (show ¬ (false = true) by decide)] at H; exact H
             clear H
             have H := H1
             clear H1
             replace H := Option.bind_eq_some_iff.mp H
             obtain ⟨t357, A250, H⟩ := H
             replace H : ((caesuraref11_all.f kj18 l0_3 (l0_0.length : Int)).bind fun t358 => ((caesuraref11_rises.f kj18 l0_1 (l0_0.length : Int)).bind fun t359 => ((caesuraref11_rises.f kj18 l0_2 (l0_0.length : Int)).bind fun t360 => (if t357 = true then (if t358 = true then (if t359 = true then (if t360 = true then (some 0) else (some 1)) else (some 1)) else (some 1)) else (some 1))))) = some r := H
             have A25 := Aside0.mk A250
             clear A250
             replace H := Option.bind_eq_some_iff.mp H
             obtain ⟨t358, A260, H⟩ := H
             replace H : ((caesuraref11_rises.f kj18 l0_1 (l0_0.length : Int)).bind fun t359 => ((caesuraref11_rises.f kj18 l0_2 (l0_0.length : Int)).bind fun t360 => (if t357 = true then (if t358 = true then (if t359 = true then (if t360 = true then (some 0) else (some 1)) else (some 1)) else (some 1)) else (some 1)))) = some r := H
             have A26 := Aside0.mk A260
             clear A260
             replace H := Option.bind_eq_some_iff.mp H
             obtain ⟨t359, A270, H⟩ := H
             replace H : ((caesuraref11_rises.f kj18 l0_2 (l0_0.length : Int)).bind fun t360 => (if t357 = true then (if t358 = true then (if t359 = true then (if t360 = true then (some 0) else (some 1)) else (some 1)) else (some 1)) else (some 1))) = some r := H
             have A27 := Aside0.mk A270
             clear A270
             replace H := Option.bind_eq_some_iff.mp H
             obtain ⟨t360, A280, H⟩ := H
             replace H : (if t357 = true then (if t358 = true then (if t359 = true then (if t360 = true then (some 0) else (some 1)) else (some 1)) else (some 1)) else (some 1)) = some r := H
             have A28 := Aside0.mk A280
             clear A280
             by_cases c29 : t357 = true
             ·subst c29
              have H1 : (if t358 = true then (if t359 = true then (if t360 = true then (some 0) else (some 1)) else (some 1)) else (some 1)) = some r := by rw [if_pos rfl] at H; exact H
              clear H
              have H := H1
              clear H1
              by_cases c30 : t358 = true
              ·subst c30
               have H1 : (if t359 = true then (if t360 = true then (some 0) else (some 1)) else (some 1)) = some r := by rw [if_pos rfl] at H; exact H
               clear H
               have H := H1
               clear H1
               by_cases c31 : t359 = true
               ·subst c31
                have H1 : (if t360 = true then (some 0) else (some 1)) = some r := by rw [if_pos rfl] at H; exact H
                clear H
                have H := H1
                clear H1
                by_cases c32 : t360 = true
                ·subst c32
                 have H1 : (some 0) = some r := by rw [if_pos rfl] at H; exact H
                 clear H
                 have H := H1
                 clear H1
                 obtain rfl := Option.some.inj H
                 have hcz33_0 : wc.cell? ⟨gb354, 0, none⟩ = some (.slice A0_0 l0_0.length c0_0) := (blk_cell BK354.out 0).trans rfl
                 have hcz33_1 : wc.cell? ⟨gb354, 1, none⟩ = some (.slice A0_1 l0_1.length c0_1) := (blk_cell BK354.out 1).trans rfl
                 have hcz33_2 : wc.cell? ⟨gb354, 2, none⟩ = some (.slice A0_2 l0_2.length c0_2) := (blk_cell BK354.out 2).trans rfl
                 have hcz33_3 : wc.cell? ⟨gb354, 3, none⟩ = some (.slice A0_3 l0_3.length c0_3) := (blk_cell BK354.out 3).trans rfl
                 have hcz33_4 : wc.cell? ⟨gb354, 4, none⟩ = some (.bool a0_4) := (blk_cell BK354.out 4).trans rfl
                 have hfz33_0 := blk_frozen BK354.out 0
                 have hfz33_1 := blk_frozen BK354.out 1
                 have hfz33_2 := blk_frozen BK354.out 2
                 have hfz33_3 := blk_frozen BK354.out 3
                 have hfz33_4 := blk_frozen BK354.out 4
                 go_wp2_with (first | ((with_reducible refine gate_callee (f := 85) rfl ?_); refine goesL_ (some 75) rfl rfl Tryd.func85 (by kernel_rfl) rfl #[.slice A0_0 l0_0.length c0_0, .int .i64 a1] rfl (by (try simp only [List.map_toArray, List.map_cons, List.map_nil]); first | done | rfl | (simp only [List.length_drop, List.length_take]; rfl)) ?_; (with_reducible refine (caesuraref11_all.calls kj18 _ _ l0_0 a1 true _ ?side1 ?side2 A25.out).mono ?_); (case side1 => repeat (first | exact (Kd.C_below HR0_0.out HB.out) | (with_reducible refine Kd.C_alloc ?_ _) | (with_reducible refine Kd.C_drewN ?_ _) | (with_reducible refine Kd.C_drew ?_))); (case side2 => exact HC0_0.out); rintro e w' ⟨rfl, ⟨nd, rfl⟩⟩; refine ⟨_, rfl, ?_⟩) | ((with_reducible refine gate_callee (f := 85) rfl ?_); refine goesL_ (some 79) rfl rfl Tryd.func85 (by kernel_rfl) rfl #[.slice A0_3 l0_3.length c0_3, .int .i64 (l0_0.length : Int)] rfl (by (try simp only [List.map_toArray, List.map_cons, List.map_nil]); first | done | rfl | (simp only [List.length_drop, List.length_take]; rfl)) ?_; (with_reducible refine (caesuraref11_all.calls kj18 _ _ l0_3 (l0_0.length : Int) true _ ?side1 ?side2 A26.out).mono ?_); (case side1 => repeat (first | exact (Kd.C_below HR0_3.out (by repeat (first | (with_reducible first | exact HB.out | apply below_alloc | apply pw_below_drewN | apply below_drew1 | refine below_set ?_ GE354.out) | exact HB.out))) | (with_reducible refine Kd.C_alloc ?_ _) | (with_reducible refine Kd.C_drewN ?_ _) | (with_reducible refine Kd.C_drew ?_))); (case side2 => exact HC0_3.out); rintro e w' ⟨rfl, ⟨nd, rfl⟩⟩; refine ⟨_, rfl, ?_⟩) | ((with_reducible refine gate_callee (f := 86) rfl ?_); refine goesL_ (some 83) rfl rfl Tryd.func86 (by kernel_rfl) rfl #[.slice A0_1 l0_1.length c0_1, .int .i64 (l0_0.length : Int)] rfl (by (try simp only [List.map_toArray, List.map_cons, List.map_nil]); first | done | rfl | (simp only [List.length_drop, List.length_take]; rfl)) ?_; (with_reducible refine (caesuraref11_rises.calls kj18 _ _ l0_1 (l0_0.length : Int) true _ ?side1 ?side2 A27.out).mono ?_); (case side1 => repeat (first | exact (Kd.C_below HR0_1.out (by repeat (first | (with_reducible first | exact HB.out | apply below_alloc | apply pw_below_drewN | apply below_drew1 | refine below_set ?_ GE354.out) | exact HB.out))) | (with_reducible refine Kd.C_alloc ?_ _) | (with_reducible refine Kd.C_drewN ?_ _) | (with_reducible refine Kd.C_drew ?_))); (case side2 => exact HC0_1.out); rintro e w' ⟨rfl, ⟨nd, rfl⟩⟩; refine ⟨_, rfl, ?_⟩) | ((with_reducible refine gate_callee (f := 86) rfl ?_); refine goesL_ (some 87) rfl rfl Tryd.func86 (by kernel_rfl) rfl #[.slice A0_2 l0_2.length c0_2, .int .i64 (l0_0.length : Int)] rfl (by (try simp only [List.map_toArray, List.map_cons, List.map_nil]); first | done | rfl | (simp only [List.length_drop, List.length_take]; rfl)) ?_; (with_reducible refine (caesuraref11_rises.calls kj18 _ _ l0_2 (l0_0.length : Int) true _ ?side1 ?side2 A28.out).mono ?_); (case side1 => repeat (first | exact (Kd.C_below HR0_2.out (by repeat (first | (with_reducible first | exact HB.out | apply below_alloc | apply pw_below_drewN | apply below_drew1 | refine below_set ?_ GE354.out) | exact HB.out))) | (with_reducible refine Kd.C_alloc ?_ _) | (with_reducible refine Kd.C_drewN ?_ _) | (with_reducible refine Kd.C_drew ?_))); (case side2 => exact HC0_2.out); rintro e w' ⟨rfl, ⟨nd, rfl⟩⟩; refine ⟨_, rfl, ?_⟩))
                 go_ret
                 exact ⟨by first | rfl | (simp [errW_none, errW_some] <;> rfl) | (simp [*, errW_none, errW_some] <;> rfl), by repeat (first | (with_reducible first | exact HB.out | apply below_alloc | apply pw_below_drewN | apply below_drew1 | refine below_set ?_ GE354.out) | exact HB.out)⟩
                ·replace c32 := Bool.eq_false_iff.mpr c32
                 subst c32
                 have H1 : (some 1) = some r := by rw [if_neg (show ¬ (false = true) by decide)] at H; exact H
                 clear H
                 have H := H1
                 clear H1
                 obtain rfl := Option.some.inj H
                 have hcz34_0 : wc.cell? ⟨gb354, 0, none⟩ = some (.slice A0_0 l0_0.length c0_0) := (blk_cell BK354.out 0).trans rfl
                 have hcz34_1 : wc.cell? ⟨gb354, 1, none⟩ = some (.slice A0_1 l0_1.length c0_1) := (blk_cell BK354.out 1).trans rfl
                 have hcz34_2 : wc.cell? ⟨gb354, 2, none⟩ = some (.slice A0_2 l0_2.length c0_2) := (blk_cell BK354.out 2).trans rfl
                 have hcz34_3 : wc.cell? ⟨gb354, 3, none⟩ = some (.slice A0_3 l0_3.length c0_3) := (blk_cell BK354.out 3).trans rfl
                 have hcz34_4 : wc.cell? ⟨gb354, 4, none⟩ = some (.bool a0_4) := (blk_cell BK354.out 4).trans rfl
                 have hfz34_0 := blk_frozen BK354.out 0
                 have hfz34_1 := blk_frozen BK354.out 1
                 have hfz34_2 := blk_frozen BK354.out 2
                 have hfz34_3 := blk_frozen BK354.out 3
                 have hfz34_4 := blk_frozen BK354.out 4
                 go_wp2_with (first | ((with_reducible refine gate_callee (f := 85) rfl ?_); refine goesL_ (some 75) rfl rfl Tryd.func85 (by kernel_rfl) rfl #[.slice A0_0 l0_0.length c0_0, .int .i64 a1] rfl (by (try simp only [List.map_toArray, List.map_cons, List.map_nil]); first | done | rfl | (simp only [List.length_drop, List.length_take]; rfl)) ?_; (with_reducible refine (caesuraref11_all.calls kj18 _ _ l0_0 a1 true _ ?side1 ?side2 A25.out).mono ?_); (case side1 => repeat (first | exact (Kd.C_below HR0_0.out HB.out) | (with_reducible refine Kd.C_alloc ?_ _) | (with_reducible refine Kd.C_drewN ?_ _) | (with_reducible refine Kd.C_drew ?_))); (case side2 => exact HC0_0.out); rintro e w' ⟨rfl, ⟨nd, rfl⟩⟩; refine ⟨_, rfl, ?_⟩) | ((with_reducible refine gate_callee (f := 85) rfl ?_); refine goesL_ (some 79) rfl rfl Tryd.func85 (by kernel_rfl) rfl #[.slice A0_3 l0_3.length c0_3, .int .i64 (l0_0.length : Int)] rfl (by (try simp only [List.map_toArray, List.map_cons, List.map_nil]); first | done | rfl | (simp only [List.length_drop, List.length_take]; rfl)) ?_; (with_reducible refine (caesuraref11_all.calls kj18 _ _ l0_3 (l0_0.length : Int) true _ ?side1 ?side2 A26.out).mono ?_); (case side1 => repeat (first | exact (Kd.C_below HR0_3.out (by repeat (first | (with_reducible first | exact HB.out | apply below_alloc | apply pw_below_drewN | apply below_drew1 | refine below_set ?_ GE354.out) | exact HB.out))) | (with_reducible refine Kd.C_alloc ?_ _) | (with_reducible refine Kd.C_drewN ?_ _) | (with_reducible refine Kd.C_drew ?_))); (case side2 => exact HC0_3.out); rintro e w' ⟨rfl, ⟨nd, rfl⟩⟩; refine ⟨_, rfl, ?_⟩) | ((with_reducible refine gate_callee (f := 86) rfl ?_); refine goesL_ (some 83) rfl rfl Tryd.func86 (by kernel_rfl) rfl #[.slice A0_1 l0_1.length c0_1, .int .i64 (l0_0.length : Int)] rfl (by (try simp only [List.map_toArray, List.map_cons, List.map_nil]); first | done | rfl | (simp only [List.length_drop, List.length_take]; rfl)) ?_; (with_reducible refine (caesuraref11_rises.calls kj18 _ _ l0_1 (l0_0.length : Int) true _ ?side1 ?side2 A27.out).mono ?_); (case side1 => repeat (first | exact (Kd.C_below HR0_1.out (by repeat (first | (with_reducible first | exact HB.out | apply below_alloc | apply pw_below_drewN | apply below_drew1 | refine below_set ?_ GE354.out) | exact HB.out))) | (with_reducible refine Kd.C_alloc ?_ _) | (with_reducible refine Kd.C_drewN ?_ _) | (with_reducible refine Kd.C_drew ?_))); (case side2 => exact HC0_1.out); rintro e w' ⟨rfl, ⟨nd, rfl⟩⟩; refine ⟨_, rfl, ?_⟩) | ((with_reducible refine gate_callee (f := 86) rfl ?_); refine goesL_ (some 87) rfl rfl Tryd.func86 (by kernel_rfl) rfl #[.slice A0_2 l0_2.length c0_2, .int .i64 (l0_0.length : Int)] rfl (by (try simp only [List.map_toArray, List.map_cons, List.map_nil]); first | done | rfl | (simp only [List.length_drop, List.length_take]; rfl)) ?_; (with_reducible refine (caesuraref11_rises.calls kj18 _ _ l0_2 (l0_0.length : Int) false _ ?side1 ?side2 A28.out).mono ?_); (case side1 => repeat (first | exact (Kd.C_below HR0_2.out (by repeat (first | (with_reducible first | exact HB.out | apply below_alloc | apply pw_below_drewN | apply below_drew1 | refine below_set ?_ GE354.out) | exact HB.out))) | (with_reducible refine Kd.C_alloc ?_ _) | (with_reducible refine Kd.C_drewN ?_ _) | (with_reducible refine Kd.C_drew ?_))); (case side2 => exact HC0_2.out); rintro e w' ⟨rfl, ⟨nd, rfl⟩⟩; refine ⟨_, rfl, ?_⟩))
                 go_ret
                 exact ⟨by first | rfl | (simp [errW_none, errW_some] <;> rfl) | (simp [*, errW_none, errW_some] <;> rfl), by repeat (first | (with_reducible first | exact HB.out | apply below_alloc | apply pw_below_drewN | apply below_drew1 | refine below_set ?_ GE354.out) | exact HB.out)⟩
               ·replace c31 := Bool.eq_false_iff.mpr c31
                subst c31
                have H1 : (some 1) = some r := by rw [if_neg (show ¬ (false = true) by decide)] at H; exact H
                clear H
                have H := H1
                clear H1
                obtain rfl := Option.some.inj H
                have hcz35_0 : wc.cell? ⟨gb354, 0, none⟩ = some (.slice A0_0 l0_0.length c0_0) := (blk_cell BK354.out 0).trans rfl
                have hcz35_1 : wc.cell? ⟨gb354, 1, none⟩ = some (.slice A0_1 l0_1.length c0_1) := (blk_cell BK354.out 1).trans rfl
                have hcz35_2 : wc.cell? ⟨gb354, 2, none⟩ = some (.slice A0_2 l0_2.length c0_2) := (blk_cell BK354.out 2).trans rfl
                have hcz35_3 : wc.cell? ⟨gb354, 3, none⟩ = some (.slice A0_3 l0_3.length c0_3) := (blk_cell BK354.out 3).trans rfl
                have hcz35_4 : wc.cell? ⟨gb354, 4, none⟩ = some (.bool a0_4) := (blk_cell BK354.out 4).trans rfl
                have hfz35_0 := blk_frozen BK354.out 0
                have hfz35_1 := blk_frozen BK354.out 1
                have hfz35_2 := blk_frozen BK354.out 2
                have hfz35_3 := blk_frozen BK354.out 3
                have hfz35_4 := blk_frozen BK354.out 4
                go_wp2_with (first | ((with_reducible refine gate_callee (f := 85) rfl ?_); refine goesL_ (some 75) rfl rfl Tryd.func85 (by kernel_rfl) rfl #[.slice A0_0 l0_0.length c0_0, .int .i64 a1] rfl (by (try simp only [List.map_toArray, List.map_cons, List.map_nil]); first | done | rfl | (simp only [List.length_drop, List.length_take]; rfl)) ?_; (with_reducible refine (caesuraref11_all.calls kj18 _ _ l0_0 a1 true _ ?side1 ?side2 A25.out).mono ?_); (case side1 => repeat (first | exact (Kd.C_below HR0_0.out HB.out) | (with_reducible refine Kd.C_alloc ?_ _) | (with_reducible refine Kd.C_drewN ?_ _) | (with_reducible refine Kd.C_drew ?_))); (case side2 => exact HC0_0.out); rintro e w' ⟨rfl, ⟨nd, rfl⟩⟩; refine ⟨_, rfl, ?_⟩) | ((with_reducible refine gate_callee (f := 85) rfl ?_); refine goesL_ (some 79) rfl rfl Tryd.func85 (by kernel_rfl) rfl #[.slice A0_3 l0_3.length c0_3, .int .i64 (l0_0.length : Int)] rfl (by (try simp only [List.map_toArray, List.map_cons, List.map_nil]); first | done | rfl | (simp only [List.length_drop, List.length_take]; rfl)) ?_; (with_reducible refine (caesuraref11_all.calls kj18 _ _ l0_3 (l0_0.length : Int) true _ ?side1 ?side2 A26.out).mono ?_); (case side1 => repeat (first | exact (Kd.C_below HR0_3.out (by repeat (first | (with_reducible first | exact HB.out | apply below_alloc | apply pw_below_drewN | apply below_drew1 | refine below_set ?_ GE354.out) | exact HB.out))) | (with_reducible refine Kd.C_alloc ?_ _) | (with_reducible refine Kd.C_drewN ?_ _) | (with_reducible refine Kd.C_drew ?_))); (case side2 => exact HC0_3.out); rintro e w' ⟨rfl, ⟨nd, rfl⟩⟩; refine ⟨_, rfl, ?_⟩) | ((with_reducible refine gate_callee (f := 86) rfl ?_); refine goesL_ (some 83) rfl rfl Tryd.func86 (by kernel_rfl) rfl #[.slice A0_1 l0_1.length c0_1, .int .i64 (l0_0.length : Int)] rfl (by (try simp only [List.map_toArray, List.map_cons, List.map_nil]); first | done | rfl | (simp only [List.length_drop, List.length_take]; rfl)) ?_; (with_reducible refine (caesuraref11_rises.calls kj18 _ _ l0_1 (l0_0.length : Int) false _ ?side1 ?side2 A27.out).mono ?_); (case side1 => repeat (first | exact (Kd.C_below HR0_1.out (by repeat (first | (with_reducible first | exact HB.out | apply below_alloc | apply pw_below_drewN | apply below_drew1 | refine below_set ?_ GE354.out) | exact HB.out))) | (with_reducible refine Kd.C_alloc ?_ _) | (with_reducible refine Kd.C_drewN ?_ _) | (with_reducible refine Kd.C_drew ?_))); (case side2 => exact HC0_1.out); rintro e w' ⟨rfl, ⟨nd, rfl⟩⟩; refine ⟨_, rfl, ?_⟩) | ((with_reducible refine gate_callee (f := 86) rfl ?_); refine goesL_ (some 87) rfl rfl Tryd.func86 (by kernel_rfl) rfl #[.slice A0_2 l0_2.length c0_2, .int .i64 (l0_0.length : Int)] rfl (by (try simp only [List.map_toArray, List.map_cons, List.map_nil]); first | done | rfl | (simp only [List.length_drop, List.length_take]; rfl)) ?_; (with_reducible refine (caesuraref11_rises.calls kj18 _ _ l0_2 (l0_0.length : Int) t360 _ ?side1 ?side2 A28.out).mono ?_); (case side1 => repeat (first | exact (Kd.C_below HR0_2.out (by repeat (first | (with_reducible first | exact HB.out | apply below_alloc | apply pw_below_drewN | apply below_drew1 | refine below_set ?_ GE354.out) | exact HB.out))) | (with_reducible refine Kd.C_alloc ?_ _) | (with_reducible refine Kd.C_drewN ?_ _) | (with_reducible refine Kd.C_drew ?_))); (case side2 => exact HC0_2.out); rintro e w' ⟨rfl, ⟨nd, rfl⟩⟩; refine ⟨_, rfl, ?_⟩))
                go_ret
                exact ⟨by first | rfl | (simp [errW_none, errW_some] <;> rfl) | (simp [*, errW_none, errW_some] <;> rfl), by repeat (first | (with_reducible first | exact HB.out | apply below_alloc | apply pw_below_drewN | apply below_drew1 | refine below_set ?_ GE354.out) | exact HB.out)⟩
              ·replace c30 := Bool.eq_false_iff.mpr c30
               subst c30
               have H1 : (some 1) = some r := by rw [if_neg (show ¬ (false = true) by decide)] at H; exact H
               clear H
               have H := H1
               clear H1
               obtain rfl := Option.some.inj H
               have hcz36_0 : wc.cell? ⟨gb354, 0, none⟩ = some (.slice A0_0 l0_0.length c0_0) := (blk_cell BK354.out 0).trans rfl
               have hcz36_1 : wc.cell? ⟨gb354, 1, none⟩ = some (.slice A0_1 l0_1.length c0_1) := (blk_cell BK354.out 1).trans rfl
               have hcz36_2 : wc.cell? ⟨gb354, 2, none⟩ = some (.slice A0_2 l0_2.length c0_2) := (blk_cell BK354.out 2).trans rfl
               have hcz36_3 : wc.cell? ⟨gb354, 3, none⟩ = some (.slice A0_3 l0_3.length c0_3) := (blk_cell BK354.out 3).trans rfl
               have hcz36_4 : wc.cell? ⟨gb354, 4, none⟩ = some (.bool a0_4) := (blk_cell BK354.out 4).trans rfl
               have hfz36_0 := blk_frozen BK354.out 0
               have hfz36_1 := blk_frozen BK354.out 1
               have hfz36_2 := blk_frozen BK354.out 2
               have hfz36_3 := blk_frozen BK354.out 3
               have hfz36_4 := blk_frozen BK354.out 4
               go_wp2_with (first | ((with_reducible refine gate_callee (f := 85) rfl ?_); refine goesL_ (some 75) rfl rfl Tryd.func85 (by kernel_rfl) rfl #[.slice A0_0 l0_0.length c0_0, .int .i64 a1] rfl (by (try simp only [List.map_toArray, List.map_cons, List.map_nil]); first | done | rfl | (simp only [List.length_drop, List.length_take]; rfl)) ?_; (with_reducible refine (caesuraref11_all.calls kj18 _ _ l0_0 a1 true _ ?side1 ?side2 A25.out).mono ?_); (case side1 => repeat (first | exact (Kd.C_below HR0_0.out HB.out) | (with_reducible refine Kd.C_alloc ?_ _) | (with_reducible refine Kd.C_drewN ?_ _) | (with_reducible refine Kd.C_drew ?_))); (case side2 => exact HC0_0.out); rintro e w' ⟨rfl, ⟨nd, rfl⟩⟩; refine ⟨_, rfl, ?_⟩) | ((with_reducible refine gate_callee (f := 85) rfl ?_); refine goesL_ (some 79) rfl rfl Tryd.func85 (by kernel_rfl) rfl #[.slice A0_3 l0_3.length c0_3, .int .i64 (l0_0.length : Int)] rfl (by (try simp only [List.map_toArray, List.map_cons, List.map_nil]); first | done | rfl | (simp only [List.length_drop, List.length_take]; rfl)) ?_; (with_reducible refine (caesuraref11_all.calls kj18 _ _ l0_3 (l0_0.length : Int) false _ ?side1 ?side2 A26.out).mono ?_); (case side1 => repeat (first | exact (Kd.C_below HR0_3.out (by repeat (first | (with_reducible first | exact HB.out | apply below_alloc | apply pw_below_drewN | apply below_drew1 | refine below_set ?_ GE354.out) | exact HB.out))) | (with_reducible refine Kd.C_alloc ?_ _) | (with_reducible refine Kd.C_drewN ?_ _) | (with_reducible refine Kd.C_drew ?_))); (case side2 => exact HC0_3.out); rintro e w' ⟨rfl, ⟨nd, rfl⟩⟩; refine ⟨_, rfl, ?_⟩) | ((with_reducible refine gate_callee (f := 86) rfl ?_); refine goesL_ (some 83) rfl rfl Tryd.func86 (by kernel_rfl) rfl #[.slice A0_1 l0_1.length c0_1, .int .i64 (l0_0.length : Int)] rfl (by (try simp only [List.map_toArray, List.map_cons, List.map_nil]); first | done | rfl | (simp only [List.length_drop, List.length_take]; rfl)) ?_; (with_reducible refine (caesuraref11_rises.calls kj18 _ _ l0_1 (l0_0.length : Int) t359 _ ?side1 ?side2 A27.out).mono ?_); (case side1 => repeat (first | exact (Kd.C_below HR0_1.out (by repeat (first | (with_reducible first | exact HB.out | apply below_alloc | apply pw_below_drewN | apply below_drew1 | refine below_set ?_ GE354.out) | exact HB.out))) | (with_reducible refine Kd.C_alloc ?_ _) | (with_reducible refine Kd.C_drewN ?_ _) | (with_reducible refine Kd.C_drew ?_))); (case side2 => exact HC0_1.out); rintro e w' ⟨rfl, ⟨nd, rfl⟩⟩; refine ⟨_, rfl, ?_⟩) | ((with_reducible refine gate_callee (f := 86) rfl ?_); refine goesL_ (some 87) rfl rfl Tryd.func86 (by kernel_rfl) rfl #[.slice A0_2 l0_2.length c0_2, .int .i64 (l0_0.length : Int)] rfl (by (try simp only [List.map_toArray, List.map_cons, List.map_nil]); first | done | rfl | (simp only [List.length_drop, List.length_take]; rfl)) ?_; (with_reducible refine (caesuraref11_rises.calls kj18 _ _ l0_2 (l0_0.length : Int) t360 _ ?side1 ?side2 A28.out).mono ?_); (case side1 => repeat (first | exact (Kd.C_below HR0_2.out (by repeat (first | (with_reducible first | exact HB.out | apply below_alloc | apply pw_below_drewN | apply below_drew1 | refine below_set ?_ GE354.out) | exact HB.out))) | (with_reducible refine Kd.C_alloc ?_ _) | (with_reducible refine Kd.C_drewN ?_ _) | (with_reducible refine Kd.C_drew ?_))); (case side2 => exact HC0_2.out); rintro e w' ⟨rfl, ⟨nd, rfl⟩⟩; refine ⟨_, rfl, ?_⟩))
               go_ret
               exact ⟨by first | rfl | (simp [errW_none, errW_some] <;> rfl) | (simp [*, errW_none, errW_some] <;> rfl), by repeat (first | (with_reducible first | exact HB.out | apply below_alloc | apply pw_below_drewN | apply below_drew1 | refine below_set ?_ GE354.out) | exact HB.out)⟩
             ·replace c29 := Bool.eq_false_iff.mpr c29
              subst c29
              have H1 : (some 1) = some r := by rw [if_neg (show ¬ (false = true) by decide)] at H; exact H
              clear H
              have H := H1
              clear H1
              obtain rfl := Option.some.inj H
              have hcz37_0 : wc.cell? ⟨gb354, 0, none⟩ = some (.slice A0_0 l0_0.length c0_0) := (blk_cell BK354.out 0).trans rfl
              have hcz37_1 : wc.cell? ⟨gb354, 1, none⟩ = some (.slice A0_1 l0_1.length c0_1) := (blk_cell BK354.out 1).trans rfl
              have hcz37_2 : wc.cell? ⟨gb354, 2, none⟩ = some (.slice A0_2 l0_2.length c0_2) := (blk_cell BK354.out 2).trans rfl
              have hcz37_3 : wc.cell? ⟨gb354, 3, none⟩ = some (.slice A0_3 l0_3.length c0_3) := (blk_cell BK354.out 3).trans rfl
              have hcz37_4 : wc.cell? ⟨gb354, 4, none⟩ = some (.bool a0_4) := (blk_cell BK354.out 4).trans rfl
              have hfz37_0 := blk_frozen BK354.out 0
              have hfz37_1 := blk_frozen BK354.out 1
              have hfz37_2 := blk_frozen BK354.out 2
              have hfz37_3 := blk_frozen BK354.out 3
              have hfz37_4 := blk_frozen BK354.out 4
              go_wp2_with (first | ((with_reducible refine gate_callee (f := 85) rfl ?_); refine goesL_ (some 75) rfl rfl Tryd.func85 (by kernel_rfl) rfl #[.slice A0_0 l0_0.length c0_0, .int .i64 a1] rfl (by (try simp only [List.map_toArray, List.map_cons, List.map_nil]); first | done | rfl | (simp only [List.length_drop, List.length_take]; rfl)) ?_; (with_reducible refine (caesuraref11_all.calls kj18 _ _ l0_0 a1 false _ ?side1 ?side2 A25.out).mono ?_); (case side1 => repeat (first | exact (Kd.C_below HR0_0.out HB.out) | (with_reducible refine Kd.C_alloc ?_ _) | (with_reducible refine Kd.C_drewN ?_ _) | (with_reducible refine Kd.C_drew ?_))); (case side2 => exact HC0_0.out); rintro e w' ⟨rfl, ⟨nd, rfl⟩⟩; refine ⟨_, rfl, ?_⟩) | ((with_reducible refine gate_callee (f := 85) rfl ?_); refine goesL_ (some 79) rfl rfl Tryd.func85 (by kernel_rfl) rfl #[.slice A0_3 l0_3.length c0_3, .int .i64 (l0_0.length : Int)] rfl (by (try simp only [List.map_toArray, List.map_cons, List.map_nil]); first | done | rfl | (simp only [List.length_drop, List.length_take]; rfl)) ?_; (with_reducible refine (caesuraref11_all.calls kj18 _ _ l0_3 (l0_0.length : Int) t358 _ ?side1 ?side2 A26.out).mono ?_); (case side1 => repeat (first | exact (Kd.C_below HR0_3.out (by repeat (first | (with_reducible first | exact HB.out | apply below_alloc | apply pw_below_drewN | apply below_drew1 | refine below_set ?_ GE354.out) | exact HB.out))) | (with_reducible refine Kd.C_alloc ?_ _) | (with_reducible refine Kd.C_drewN ?_ _) | (with_reducible refine Kd.C_drew ?_))); (case side2 => exact HC0_3.out); rintro e w' ⟨rfl, ⟨nd, rfl⟩⟩; refine ⟨_, rfl, ?_⟩) | ((with_reducible refine gate_callee (f := 86) rfl ?_); refine goesL_ (some 83) rfl rfl Tryd.func86 (by kernel_rfl) rfl #[.slice A0_1 l0_1.length c0_1, .int .i64 (l0_0.length : Int)] rfl (by (try simp only [List.map_toArray, List.map_cons, List.map_nil]); first | done | rfl | (simp only [List.length_drop, List.length_take]; rfl)) ?_; (with_reducible refine (caesuraref11_rises.calls kj18 _ _ l0_1 (l0_0.length : Int) t359 _ ?side1 ?side2 A27.out).mono ?_); (case side1 => repeat (first | exact (Kd.C_below HR0_1.out (by repeat (first | (with_reducible first | exact HB.out | apply below_alloc | apply pw_below_drewN | apply below_drew1 | refine below_set ?_ GE354.out) | exact HB.out))) | (with_reducible refine Kd.C_alloc ?_ _) | (with_reducible refine Kd.C_drewN ?_ _) | (with_reducible refine Kd.C_drew ?_))); (case side2 => exact HC0_1.out); rintro e w' ⟨rfl, ⟨nd, rfl⟩⟩; refine ⟨_, rfl, ?_⟩) | ((with_reducible refine gate_callee (f := 86) rfl ?_); refine goesL_ (some 87) rfl rfl Tryd.func86 (by kernel_rfl) rfl #[.slice A0_2 l0_2.length c0_2, .int .i64 (l0_0.length : Int)] rfl (by (try simp only [List.map_toArray, List.map_cons, List.map_nil]); first | done | rfl | (simp only [List.length_drop, List.length_take]; rfl)) ?_; (with_reducible refine (caesuraref11_rises.calls kj18 _ _ l0_2 (l0_0.length : Int) t360 _ ?side1 ?side2 A28.out).mono ?_); (case side1 => repeat (first | exact (Kd.C_below HR0_2.out (by repeat (first | (with_reducible first | exact HB.out | apply below_alloc | apply pw_below_drewN | apply below_drew1 | refine below_set ?_ GE354.out) | exact HB.out))) | (with_reducible refine Kd.C_alloc ?_ _) | (with_reducible refine Kd.C_drewN ?_ _) | (with_reducible refine Kd.C_drew ?_))); (case side2 => exact HC0_2.out); rintro e w' ⟨rfl, ⟨nd, rfl⟩⟩; refine ⟨_, rfl, ?_⟩))
              go_ret
              exact ⟨by first | rfl | (simp [errW_none, errW_some] <;> rfl) | (simp [*, errW_none, errW_some] <;> rfl), by repeat (first | (with_reducible first | exact HB.out | apply below_alloc | apply pw_below_drewN | apply below_drew1 | refine below_set ?_ GE354.out) | exact HB.out)⟩

end Go.Proofs.YtfonajakaimnoaaDoor.Lib

/- The document's Check of positions comes to the same number. -/
namespace Go.Proofs.YtfonajakaimnoaaDoor.C11
open Go.RowKit Go.Proofs.YtfonajakaimnoaaDoorW.PrintWords Go.Proofs.YtfonajakaimnoaaDoorW.PrintLast Go.Proofs.YtfonajakaimnoaaDoorW.PrintMore Go.Proofs.YtfonajakaimnoaaDoor.Lib Lent Go.Proofs.YtfonajakaimnoaaDoor.Fn
set_option linter.unusedVariables false
set_option linter.unusedSimpArgs false

theorem tot_take (Fo : LL) : ∀ k, k ≤ Fo.length → tot Fo k = ((Fo.take k).map List.length).sum := by
 intro k
 induction k with
 | zero => intro _; rfl
 | succ k ih =>
  intro hk
  rw [List.take_add_one, List.getElem?_eq_getElem (by omega)]
  simp only [tot, ih (by omega), Option.toList_some, List.map_append, List.map_cons, List.map_nil, List.sum_append, List.sum_cons, List.sum_nil, Nat.add_zero]
  rw [List.getD_eq_getElem?_getD, List.getElem?_eq_getElem (by omega)]
  rfl
theorem tot_total (Fo : LL) : tot Fo Fo.length = total Fo := by
 rw [tot_take Fo _ (Nat.le_refl _), List.take_length]
 rfl
variable (L : LL) (F La : List Int) (Fo : LL) (b : Bool) (s : Int)
theorem wt_step (X : LL) (i : Nat) : wrap64 (wrap64 (tot X i : Nat) + ((rd_L1 X (i : Int)).length : Int)) = wrap64 ((tot X (i + 1) : Nat) : Int) := by
 rw [wrap_wrap, show tot X (i + 1) = tot X i + (rd_L1 X (i : Int)).length from rfl, Int.natCast_add]
theorem wrap_tot0 (X : LL) : wrap64 ((tot X 0 : Nat) : Int) = 0 := by
 show wrap64 ((0 : Nat) : Int) = 0
 unfold wrap64
 omega
theorem check_l0 (hFo : Fo.length ≤ 9223372036854775807) {r : Int} (h : Ev (fun k => caesuraref11_Check.l1 k s (wt Fo) 0 0 L F La Fo b) r) :
  ∀ d i : Nat, i ≤ Fo.length → Fo.length - i = d → Ev (fun k => caesuraref11_Check.l0 k s (wrap64 (tot Fo i : Nat)) i L F La Fo b) r := by
 intro d
 induction d with
 | zero =>
  intro i hi hd
  refine Ev.step (f := fun k => caesuraref11_Check.l1 k s (wt Fo) 0 0 L F La Fo b) (fun k => ?_) h
  conv => lhs; unfold caesuraref11_Check.l0
  rw [if_neg (by omega), show i = Fo.length by omega, tot_total, wt]
 | succ d ih =>
  intro i hi hd
  have hw : wrap64 ((i : Int) + 1) = ((i + 1 : Nat) : Int) := by rw [wrap_succ (n := Fo.length) (by omega) (by omega) (by omega)]; omega
  refine Ev.step (f := fun k => caesuraref11_Check.l0 k s (wrap64 (tot Fo (i + 1) : Nat)) ((i + 1 : Nat) : Int) L F La Fo b) (fun k => ?_) (ih (i + 1) (by omega) (by omega))
  conv => lhs; unfold caesuraref11_Check.l0
  rw [if_pos (by omega), if_pos (by omega), hw, wt_step]
theorem check_j3 (q : Bool) (hL : L.length ≤ 9223372036854775807) (hFo : Fo.length ≤ 9223372036854775807) (hF : F.length ≤ 9223372036854775807) (hLa : La.length ≤ 9223372036854775807) (hLr : ∀ x ∈ L, x.length ≤ 9223372036854775807) (hFr : ∀ x ∈ Fo, x.length ≤ 9223372036854775807) :
  Ev (fun k => caesuraref11_Check.j3 k s L.length q L F La Fo b) (if q then 1 else if L.all (risesB s (-1)) && (Fo.all (risesB L.length (-1)) && (risesB L.length (-1) F && risesB L.length (-1) La)) then 0 else 1) := by
 cases q with
 | true =>
  refine Ev.step (f := fun _ => some 1) (fun k => ?_) (Ev.now _)
  simp only [caesuraref11_Check.j3, if_true]
 | false =>
  refine Ev.step (f := fun k => ((caesuraref11_all.f k L s).bind fun t357 => ((caesuraref11_all.f k Fo L.length).bind fun t358 => ((caesuraref11_rises.f k F L.length).bind fun t359 => ((caesuraref11_rises.f k La L.length).bind fun t360 => (if t357 = true then (if t358 = true then (if t359 = true then (if t360 = true then (some 0) else (some 1)) else (some 1)) else (some 1)) else (some 1))))))) (fun k => ?_) ?_
  ·simp only [caesuraref11_Check.j3, Bool.false_eq_true, if_false]
  ·refine Ev.bind (doc_all_ev L s hL hLr) (Ev.bind (doc_all_ev Fo L.length hFo hFr) (Ev.bind (doc_rises_ev F L.length hF) (Ev.bind (doc_rises_ev La L.length hLa) ?_)))
   cases L.all (risesB s (-1)) <;> cases Fo.all (risesB L.length (-1)) <;> cases risesB L.length (-1) F <;> cases risesB L.length (-1) La <;> exact Ev.now _
theorem check_j2 (q : Bool) (hL : L.length ≤ 9223372036854775807) (hFo : Fo.length ≤ 9223372036854775807) (hF : F.length ≤ 9223372036854775807) (hLa : La.length ≤ 9223372036854775807) (hLr : ∀ x ∈ L, x.length ≤ 9223372036854775807) (hFr : ∀ x ∈ Fo, x.length ≤ 9223372036854775807) :
  Ev (fun k => caesuraref11_Check.j2 k s q L F La Fo b) (if q then 3 else if okB L F La Fo s then 0 else 1) := by
 cases q with
 | true =>
  refine Ev.step (f := fun _ => some 3) (fun k => ?_) (Ev.now _)
  simp only [caesuraref11_Check.j2, if_true]
 | false =>
  simp only [Bool.false_eq_true, if_false]
  have j := fun q => check_j3 L F La Fo b s q hL hFo hF hLa hLr hFr
  by_cases h1 : s < 1
  ·have ho : okB L F La Fo s = false := by simp [okB, show ¬ s ≥ 1 by omega]
   rw [ho]
   refine Ev.step (fun k => ?_) (j true)
   simp only [caesuraref11_Check.j2, Bool.false_eq_true, if_false, if_pos h1]
  ·by_cases h2 : s > 16384
   ·have ho : okB L F La Fo s = false := by simp [okB, show ¬ s ≤ 16384 by omega]
    rw [ho]
    refine Ev.step (fun k => ?_) (j true)
    simp only [caesuraref11_Check.j2, Bool.false_eq_true, if_false, if_neg h1, if_pos h2]
   ·have ho : (if okB L F La Fo s then (0 : Int) else 1) = (if ((Fo.length : Int) != (L.length : Int)) then 1 else if L.all (risesB s (-1)) && (Fo.all (risesB L.length (-1)) && (risesB L.length (-1) F && risesB L.length (-1) La)) then 0 else 1) := by
     by_cases h3 : Fo.length = L.length
     ·rw [show ((Fo.length : Int) != (L.length : Int)) = false by simp [h3]]
      simp only [okB, show s ≥ 1 by omega, show s ≤ 16384 by omega, h3, decide_true, Bool.true_and]
      cases L.all (risesB s (-1)) <;> cases Fo.all (risesB L.length (-1)) <;> cases risesB L.length (-1) F <;> cases risesB L.length (-1) La <;> rfl
     ·rw [show ((Fo.length : Int) != (L.length : Int)) = true by simp; omega]
      simp [okB, h3]
    rw [ho]
    refine Ev.step (fun k => ?_) (j _)
    simp only [caesuraref11_Check.j2, Bool.false_eq_true, if_false, if_neg h1, if_neg h2]
theorem check_l1 (hL : L.length ≤ 9223372036854775807) (hFo : Fo.length ≤ 9223372036854775807) (hF : F.length ≤ 9223372036854775807) (hLa : La.length ≤ 9223372036854775807) (hLr : ∀ x ∈ L, x.length ≤ 9223372036854775807) (hFr : ∀ x ∈ Fo, x.length ≤ 9223372036854775807) :
  ∀ d i : Nat, i ≤ L.length → L.length - i = d → Ev (fun k => caesuraref11_Check.l1 k s (wt Fo) (wrap64 (tot L i : Nat)) i L F La Fo b) ((checkC L F La Fo s : Nat) : Int) := by
 intro d
 induction d with
 | zero =>
  intro i hi hd
  have e : wrap64 (tot L i : Nat) = wt L := by rw [show i = L.length by omega, tot_total, wt]
  have j := fun q => check_j2 L F La Fo b s q hL hFo hF hLa hLr hFr
  have hC : ((checkC L F La Fo s : Nat) : Int) = (if manyB L Fo then 3 else if okB L F La Fo s then 0 else 1) := by
   unfold checkC
   split
   ·rfl
   ·split <;> rfl
  rw [hC]
  refine Ev.step (f := fun k => caesuraref11_Check.j2 k s (manyB L Fo) L F La Fo b) (fun k => ?_) (j _)
  conv => lhs; unfold caesuraref11_Check.l1
  rw [if_neg (by omega), e]
  by_cases h1 : L.length > 4000
  ·rw [if_pos (by omega), show manyB L Fo = true by simp [manyB, h1]]
  ·rw [if_neg (by omega)]
   by_cases h2 : wt L > 4194304
   ·rw [if_pos h2, show manyB L Fo = true by simp [manyB, h2]]
   ·rw [if_neg h2]
    have : decide (wt Fo > 1048576) = manyB L Fo := by
     simp only [manyB, decide_eq_false h1, decide_eq_false h2, Bool.false_or]
    rw [this]
 | succ d ih =>
  intro i hi hd
  have hw : wrap64 ((i : Int) + 1) = ((i + 1 : Nat) : Int) := by rw [wrap_succ (n := L.length) (by omega) (by omega) (by omega)]; omega
  refine Ev.step (f := fun k => caesuraref11_Check.l1 k s (wt Fo) (wrap64 (tot L (i + 1) : Nat)) ((i + 1 : Nat) : Int) L F La Fo b) (fun k => ?_) (ih (i + 1) (by omega) (by omega))
  conv => lhs; unfold caesuraref11_Check.l1
  rw [if_pos (by omega), if_pos (by omega), hw, wt_step]
/-- The document's number is the program's. -/
theorem doc_check_ev (hL : L.length ≤ 9223372036854775807) (hFo : Fo.length ≤ 9223372036854775807) (hF : F.length ≤ 9223372036854775807) (hLa : La.length ≤ 9223372036854775807) (hLr : ∀ x ∈ L, x.length ≤ 9223372036854775807) (hFr : ∀ x ∈ Fo, x.length ≤ 9223372036854775807) :
  Ev (fun k => caesuraref11_Check.f k L F La Fo b s) ((checkC L F La Fo s : Nat) : Int) :=
 by
  have h1 := check_l1 L F La Fo b s hL hFo hF hLa hLr hFr L.length 0 (by omega) (by omega)
  rw [wrap_tot0] at h1
  have h0 := check_l0 L F La Fo b s hFo h1 Fo.length 0 (by omega) (by omega)
  rw [wrap_tot0] at h0
  exact h0
end Go.Proofs.YtfonajakaimnoaaDoor.C11

/- places.Reverse: its walk. -/
namespace Go.Proofs.YtfonajakaimnoaaDoor.C11
open Go.RowKit Go.Proofs.YtfonajakaimnoaaDoorW.PrintWords Go.Proofs.YtfonajakaimnoaaDoorW.PrintLast Go.Proofs.YtfonajakaimnoaaDoorW.PrintMore Go.Proofs.YtfonajakaimnoaaDoor.Lib Lent Go.Proofs.YtfonajakaimnoaaDoor.Fn Go.Shelf Go.Proofs.YtfonajakaimnoaaDoor.Stl
set_option linter.unusedVariables false
set_option linter.unusedSimpArgs false
attribute [local go_sem] max2_int min2_int max_two min_two max_three min_three max_four min_four

set_option maxHeartbeats 8000000 in
set_option maxRecDepth 100000 in
theorem reverse_calls (A0 : Option Addr) (c0 : Nat) (L : LL) (A1 : Option Addr) (c1 : Nat) (F : List Int) (A2 : Option Addr) (c2 : Nat) (La : List Int) (A3 : Option Addr) (c3 : Nat) (Fo : LL) (b : Bool) (w : World)
  (h0 : Kd.C kL w A0 L.length L ∧ L.length ≤ c0) (h1 : Kd.C kI w A1 F.length F ∧ F.length ≤ c1) (h2 : Kd.C kI w A2 La.length La ∧ La.length ≤ c2) (h3 : Kd.C kL w A3 Fo.length Fo ∧ Fo.length ≤ c3) (hlen : Fo.length ≤ 5864062014634) (hlen2 : L.length ≤ 5864062014634)
  (h1b : F.length ≤ 17592186043904) (h2b : La.length ≤ 17592186043904) (hLb : ∀ l ∈ L, l.length ≤ 17592186043904) :
  Calls Tryd.prog 24 #[.agg #[.slice A0 L.length c0, .slice A1 F.length c1, .slice A2 La.length c2, .slice A3 Fo.length c3, .bool b]] w (revPost L F La Fo b w) := by
 have hu := Tryd.underlying42
 have H0 := Aside0.mk h0
 have H1 := Aside0.mk h1
 have H2 := Aside0.mk h2
 have H3 := Aside0.mk h3
 have HN := Aside0.mk hlen
 have H1b := Aside0.mk h1b
 have H2b := Aside0.mk h2b
 have HLb := Aside0.mk hLb
 clear h0 h1 h2 h3 hlen h1b h2b hLb
 go_enter Tryd.func24, Tryd.ntmps24
 go_wp2_with fail
 have hbW := fun (o1 o2 : Obj) => (below_alloc (below_alloc (Below.refl w.heap.size w) o1) o2)
 refine (placed_calls A0 c0 L A1 c1 F A2 c2 La A3 c3 Fo b _ ⟨Kd.C_below H0.out.1 (hbW _ _), H0.out.2⟩ ⟨Kd.C_below H1.out.1 (hbW _ _), H1.out.2⟩ ⟨Kd.C_below H2.out.1 (hbW _ _), H2.out.2⟩ ⟨Kd.C_below H3.out.1 (hbW _ _), H3.out.2⟩ HN.out).mono ?_
 rintro e w1 ⟨rfl, hb⟩
 have HB := Aside0.mk (show RB w w.heap.size (.slice A0 L.length c0) (.slice A1 F.length c1) (.slice A2 La.length c2) (.slice A3 Fo.length c3) b w1 from
  ⟨below_step (hbW _ _) hb, (hb.block _ (by simp; omega)).trans (by rw [heap_alloc_old _ _ (by simp)]; exact heap_alloc_new _ _), (hb.block _ (by simp)).trans (by have := heap_alloc_new (w.alloc (.cells #[.slice A0 L.length c0, .slice A1 F.length c1, .slice A2 La.length c2, .slice A3 Fo.length c3, .bool b] 42)) (.cells #[.slice none 0 0, .slice none 0 0, .slice none 0 0, .slice none 0 0, .bool false] 42); simpa using this)⟩)
 clear hb
 -- the refusal, from any world
 obtain ⟨f0, f1, f2, f3, f4⟩ := HB.out.held
 cases hP : placedB L F La Fo with
 | false =>
  have HP : Aside0 (revOk L F La Fo = false) := ⟨by simp [revOk, hP]⟩
  clear hP
  have z0 := (blk_cell HB.out.res 0).trans rfl
  have z1 := (blk_cell HB.out.res 1).trans rfl
  have z2 := (blk_cell HB.out.res 2).trans rfl
  have z3 := (blk_cell HB.out.res 3).trans rfl
  have z4 := (blk_cell HB.out.res 4).trans rfl
  have y0 := blk_frozen HB.out.res 0
  have y1 := blk_frozen HB.out.res 1
  have y2 := blk_frozen HB.out.res 2
  have y3 := blk_frozen HB.out.res 3
  have y4 := blk_frozen HB.out.res 4
  go_wp2_with fail
  refine bodyPost_ret (results_cell_row rfl _ _ (w.heap.size + 1) 42 #[.slice none 0 0, .slice none 0 0, .slice none 0 0, .slice none 0 0, .bool false] (0, 0) _ rfl (blk_put (blk_put (blk_put (blk_put (blk_put HB.out.res 0 _ rfl) 1 _ rfl) 2 _ rfl) 3 _ rfl) 4 _ rfl) Tryd.underlying42 rfl (by kernel_rfl)) rfl ?_
  refine ⟨_, _, _, _, by rw [HP.out]; rfl, by rw [HP.out]; exact Kd.R_nil _ _ _ _ _, by rw [HP.out]; exact Kd.R_nil _ _ _ _ _, by rw [HP.out]; exact Kd.R_nil _ _ _ _ _, by rw [HP.out]; exact Kd.R_nil _ _ _ _ _, ?_⟩
  exact (((((HB.out.below.setCell (Nat.le_succ _) _).setCell (Nat.le_succ _) _).setCell (Nat.le_succ _) _).setCell (Nat.le_succ _) _).setCell (Nat.le_succ _) _)
 | true =>
  have HP := Aside0.mk hP
  clear hP
  go_wp2_with fail
  refine (places_all.calls A0 c0 L (fun _ => True) A1 c1 F (fun _ => True) A2 c2 La (fun _ => True) A3 c3 Fo b (F :: La :: Fo) _ (Kd.C_below H0.out.1 HB.out.below) H0.out.2
   ⟨_, _, rfl, H1.out.2, Kd.F_mono (Kd.C_F (Kd.heap_int .i64) (Kd.C_below H1.out.1 HB.out.below)) (fun _ _ => trivial)⟩
   ⟨_, _, rfl, H2.out.2, Kd.F_mono (Kd.C_F (Kd.heap_int .i64) (Kd.C_below H2.out.1 HB.out.below)) (fun _ _ => trivial)⟩
   ⟨_, _, rfl, H3.out.2, Kd.F_mono (Kd.C_F (Kd.heap_slice 3 (Kd.heap_int .i64)) (Kd.C_below H3.out.1 HB.out.below)) (fun _ _ => trivial)⟩
   (by unfold places_all.f; simp only [Option.bind_some]; rw [if_pos (by have := HN.out; simp; omega)]; rfl)).mono ?_
  rintro e w2 ⟨v, rfl, hv, hb⟩
  obtain ⟨Av, cv, rfl, hv1, hv2⟩ := Kd.N_reads hv
  replace HB := Aside0.mk (HB.out.step hb)
  have HV := Aside0.mk hv2
  clear hb hv hv1 hv2 f0 f1 f2 f3 f4
  obtain ⟨f0, f1, f2, f3, f4⟩ := HB.out.held
  go_wp2_with fail
  refine (containsFunc_list 81 #[.pointer (some ⟨w.heap.size, 0, none⟩)] (enters_of Tryd.func81 (by kernel_rfl) rfl) (fun l => !risesB L.length (-1) l) Av cv (F :: La :: Fo) w2 HV.out
   (fun W x A' c' hb hx hC hcx => turned_calls w.heap.size A' c' x _ L.length c0 W hC hcx A0 rfl ((hb.cell (p := ⟨w.heap.size, 0, none⟩) (blk_lt HB.out.old)).trans f0))).mono ?_
  rintro e w3 ⟨rfl, hb⟩
  replace HB := Aside0.mk (HB.out.step hb)
  clear hb f0 f1 f2 f3 f4
  have hall : Aside0 (revOk L F La Fo = !((F :: La :: Fo).any (fun l => !risesB L.length (-1) l))) := ⟨by rw [List.any_eq_not_all_not]; simp [revOk, HP.out]⟩
  generalize ((F :: La :: Fo).any (fun l => !risesB L.length (-1) l)) = q at hall
  cases q with
  | true =>
   have z0 := (blk_cell HB.out.res 0).trans rfl
   have z1 := (blk_cell HB.out.res 1).trans rfl
   have z2 := (blk_cell HB.out.res 2).trans rfl
   have z3 := (blk_cell HB.out.res 3).trans rfl
   have z4 := (blk_cell HB.out.res 4).trans rfl
   have y0 := blk_frozen HB.out.res 0
   have y1 := blk_frozen HB.out.res 1
   have y2 := blk_frozen HB.out.res 2
   have y3 := blk_frozen HB.out.res 3
   have y4 := blk_frozen HB.out.res 4
   go_wp2_with fail
   refine bodyPost_ret (results_cell_row rfl _ _ (w.heap.size + 1) 42 #[.slice none 0 0, .slice none 0 0, .slice none 0 0, .slice none 0 0, .bool false] (0, 0) _ rfl (blk_put (blk_put (blk_put (blk_put (blk_put HB.out.res 0 _ rfl) 1 _ rfl) 2 _ rfl) 3 _ rfl) 4 _ rfl) Tryd.underlying42 rfl (by kernel_rfl)) rfl ?_
   have HP' : revOk L F La Fo = false := hall.out
   refine ⟨_, _, _, _, by rw [HP']; rfl, by rw [HP']; exact Kd.R_nil _ _ _ _ _, by rw [HP']; exact Kd.R_nil _ _ _ _ _, by rw [HP']; exact Kd.R_nil _ _ _ _ _, by rw [HP']; exact Kd.R_nil _ _ _ _ _, ?_⟩
   exact (((((HB.out.below.setCell (Nat.le_succ _) _).setCell (Nat.le_succ _) _).setCell (Nat.le_succ _) _).setCell (Nat.le_succ _) _).setCell (Nat.le_succ _) _)
  | false =>
   have hOk : Aside0 (revOk L F La Fo = true) := ⟨hall.out⟩
   clear hall HV
   go_upto_region 3 with fail
   go_cut [3] (fun v3_ wc => ∃ (A2' : Option Addr) (c2' : Nat) (A1' : Option Addr) (c1' : Nat) (A3' : Option Addr) (c3' g3 b3 : Nat), v3_ = .pointer (some ⟨b3, 0, none⟩) ∧ Aside0 (RB w w.heap.size (.slice A0 L.length c0) (.slice A1 F.length c1) (.slice A2 La.length c2) (.slice A3 Fo.length c3) b wc) ∧ Aside0 (Kd.R kI 3 wc w.heap.size (fun _ => True) (.slice A2' La.length c2') La) ∧ Aside0 (Kd.R kI 3 wc w.heap.size (fun _ => True) (.slice A1' F.length c1') F) ∧ Aside0 (Kd.S kL 25 wc w.heap.size (fun k => k = g3) (.slice A3' L.length c3') (List.replicate L.length []) ∧ (.slice A3' L.length c3' : Value).ownBlock = some g3) ∧ Aside0 (wc.heap[b3]? = some (.cells #[.slice none 0 0, .slice A2' La.length c2', .slice A1' F.length c1', .slice A3' L.length c3', .bool b] 42 (0, 0)) ∧ w.heap.size + 1 < b3))
   case first =>
    replace HB := Aside0.mk (HB.out.step (below_drew (Below.refl _ w3)))
    refine start_ (n := 15) (S := fun w' => w'.cell? ⟨w.heap.size, 0, none⟩ = some (.slice A0 L.length c0) ∧ w'.cell? ⟨w.heap.size, 1, none⟩ = some (.slice A1 F.length c1) ∧ w'.cell? ⟨w.heap.size, 2, none⟩ = some (.slice A2 La.length c2) ∧ w'.cell? ⟨w.heap.size, 3, none⟩ = some (.slice A3 Fo.length c3) ∧ w'.cell? ⟨w.heap.size, 4, none⟩ = some (.bool b)) (ds := [14]) #[false, false, false, false, false, false, false, false, false, false, false, false, false, false, false] (by kernel_rfl) rfl rfl HB.out.held (fun hHeld => ?_)
    refine with_tabW rev.tab3 rev.bits3 (fun HT_ HW_ => ?_)
    generalize w3.drew = wn at HB hHeld ⊢
    refine pure_ (i := 0) (N := some 20) (v := ?_) (a' := ?_) #[true, false, false, false, false, false, false, false, false, false, false, false, false, false, false] rfl rfl (any_of HT_.out (by kernel_rfl)) (fun _ _ _ h => h) (Or.inl ⟨by rfl, ?_⟩) ?_ ?_
    rotate_left
    ·intro w'
     go_simp
     with_reducible rfl
    rotate_left
    ·simp only [Act.put, List.setIfInBounds_toArray, List.set_cons_zero, List.set_cons_succ, i64_w, i32_w]
     rfl
    refine pure_ (i := 3) (N := some 23) (v := ?_) (a' := ?_) #[true, false, false, true, false, false, false, false, false, false, false, false, false, false, false] rfl rfl (any_of HT_.out (by kernel_rfl)) (fun _ _ _ h => h) (Or.inl ⟨by rfl, ?_⟩) ?_ ?_
    rotate_left
    ·intro w'
     go_simp
     with_reducible rfl
    rotate_left
    ·simp only [Act.put, List.setIfInBounds_toArray, List.set_cons_zero, List.set_cons_succ, i64_w, i32_w]
     rfl
    refine pure_ (i := 6) (N := some 26) (v := ?_) (a' := ?_) #[true, false, false, true, false, false, true, false, false, false, false, false, false, false, false] rfl rfl (any_of HT_.out (by kernel_rfl)) (fun _ _ _ h => h) (Or.inl ⟨by rfl, ?_⟩) ?_ ?_
    rotate_left
    ·intro w'
     go_simp
     with_reducible rfl
    rotate_left
    ·simp only [Act.put, List.setIfInBounds_toArray, List.set_cons_zero, List.set_cons_succ, i64_w, i32_w]
     rfl
    refine pure_ (i := 8) (N := some 28) (v := ?_) (a' := ?_) #[true, false, false, true, false, false, true, false, true, false, false, false, false, false, false] rfl rfl (any_of HT_.out (by kernel_rfl)) (fun _ _ _ h => h) (Or.inl ⟨by rfl, ?_⟩) ?_ ?_
    rotate_left
    ·intro w'
     go_simp
     with_reducible rfl
    rotate_left
    ·simp only [Act.put, List.setIfInBounds_toArray, List.set_cons_zero, List.set_cons_succ, i64_w, i32_w]
     rfl
    refine take_ (i := 1) (N := some 21) (v := ?_) (a' := ?_) #[true, true, false, true, false, false, true, false, true, false, false, false, false, false, false] rfl rfl (take_ofW HT_.out HW_.out (by kernel_rfl)) (fun _ _ _ h => h) (Or.inl ⟨by rfl, ?_⟩) hHeld ?_ ?_
    rotate_left
    ·rintro w' ⟨s0, s1, s2, s3, s4⟩
     go_simp
     with_reducible rfl
    rotate_left
    ·simp only [Act.put, List.setIfInBounds_toArray, List.set_cons_zero, List.set_cons_succ, i64_w, i32_w]
     rfl
    refine take_ (i := 4) (N := some 24) (v := ?_) (a' := ?_) #[true, true, false, true, true, false, true, false, true, false, false, false, false, false, false] rfl rfl (take_ofW HT_.out HW_.out (by kernel_rfl)) (fun _ _ _ h => h) (Or.inl ⟨by rfl, ?_⟩) hHeld ?_ ?_
    rotate_left
    ·rintro w' ⟨s0, s1, s2, s3, s4⟩
     go_simp
     with_reducible rfl
    rotate_left
    ·simp only [Act.put, List.setIfInBounds_toArray, List.set_cons_zero, List.set_cons_succ, i64_w, i32_w]
     rfl
    refine take_ (i := 7) (N := some 27) (v := ?_) (a' := ?_) #[true, true, false, true, true, false, true, true, true, false, false, false, false, false, false] rfl rfl (take_ofW HT_.out HW_.out (by kernel_rfl)) (fun _ _ _ h => h) (Or.inl ⟨by rfl, ?_⟩) hHeld ?_ ?_
    rotate_left
    ·rintro w' ⟨s0, s1, s2, s3, s4⟩
     go_simp
     with_reducible rfl
    rotate_left
    ·simp only [Act.put, List.setIfInBounds_toArray, List.set_cons_zero, List.set_cons_succ, i64_w, i32_w]
     rfl
    refine take_ (i := 9) (N := some 29) (v := ?_) (a' := ?_) #[true, true, false, true, true, false, true, true, true, true, false, false, false, false, false] rfl rfl (take_ofW HT_.out HW_.out (by kernel_rfl)) (fun _ _ _ h => h) (Or.inl ⟨by rfl, ?_⟩) hHeld ?_ ?_
    rotate_left
    ·rintro w' ⟨s0, s1, s2, s3, s4⟩
     go_simp
     with_reducible rfl
    rotate_left
    ·simp only [Act.put, List.setIfInBounds_toArray, List.set_cons_zero, List.set_cons_succ, i64_w, i32_w]
     rfl
    refine pure_ (i := 10) (N := some 30) (v := ?_) (a' := ?_) #[true, true, false, true, true, false, true, true, true, true, true, false, false, false, false] rfl rfl (any_of HT_.out (by kernel_rfl)) (fun _ _ _ h => h) (Or.inl ⟨by rfl, ?_⟩) ?_ ?_
    rotate_left
    ·intro w'
     go_simp
     with_reducible rfl
    rotate_left
    ·simp only [Act.put, List.setIfInBounds_toArray, List.set_cons_zero, List.set_cons_succ, i64_w, i32_w]
     rfl
    refine join_ (σ := Value × Value × Value × Nat) 1 #[true, true, true, true, true, true, true, true, true, true, true, true, true, true, false] (fun s_ => [(22, s_.1), (25, s_.2.1), (31, s_.2.2.1), (3, .pointer (some ⟨s_.2.2.2, 0, none⟩)), (32, .agg #[.slice none 0 0, s_.1, s_.2.1, s_.2.2.1, .bool b])]) (fun s_ w' => Aside0 (RB w w.heap.size (.slice A0 L.length c0) (.slice A1 F.length c1) (.slice A2 La.length c2) (.slice A3 Fo.length c3) b w') ∧ Aside0 (Kd.R kI 3 w' w.heap.size (fun _ => True) s_.1 La) ∧ Aside0 (Kd.R kI 3 w' w.heap.size (fun _ => True) s_.2.1 F) ∧ Aside0 (∃ g, Kd.S kL 25 w' w.heap.size (fun k => k = g) s_.2.2.1 (List.replicate L.length []) ∧ s_.2.2.1.ownBlock = some g) ∧ Aside0 (w'.heap[s_.2.2.2]? = some (.cells #[.slice none 0 0, .slice none 0 0, .slice none 0 0, .slice none 0 0, .bool false] 42 (0, 0)) ∧ w.heap.size + 1 < s_.2.2.2)) ?_ ?_
    rotate_left
    ·intro hCont
     refine three_ (i := 2) (j := 11) (k := 13) (Ni := some 22) (Nj := some 31) (Nk := some 3) #[true, true, true, true, true, false, true, true, true, true, true, false, false, false, false] #[true, true, false, true, true, false, true, true, true, true, true, true, false, false, false] #[true, true, false, true, true, false, true, true, true, true, true, false, false, true, false] rfl rfl rfl rfl rfl rfl (three_of HT_.out (by kernel_rfl)) (by decide) (by decide) (by decide) (fun K hK => ?_) (fun K hK => ?_) (fun K hK => ?_)
     ·skip
      refine goes_ Tryd.func82 (by kernel_rfl) rfl #[.slice A2 La.length c2] (by rfl) rfl rfl (by (try simp only [List.map_toArray, List.map_cons, List.map_nil]); first | done | rfl) ?_
      refine (clone_calls A2 c2 La _ (Kd.C_below H2.out.1 HB.out.below) H2b.out).mono ?_
      rintro e wn ⟨v1, rfl, ho, hb⟩
      refine ⟨_, rfl, ?_⟩
      have K1 := Aside0.mk (Kd.R_lower ho HB.out.below.size)
      replace HB := Aside0.mk (HB.out.step hb)
      refine hK.out _ _ HB.out.held (fun hHeld => ?_)
      clear hK K hb ho
      refine norm_ (a' := ?_) ?_ ?_
      rotate_left
      ·show Act.put _ (some 22) _ = _
       simp only [Act.put, List.setIfInBounds_toArray, List.set_cons_zero, List.set_cons_succ, i64_w, i32_w]
       rfl
      refine three_ (i := 5) (j := 11) (k := 13) (Ni := some 25) (Nj := some 31) (Nk := some 3) #[true, true, true, true, true, true, true, true, true, true, true, false, false, false, false] #[true, true, true, true, true, false, true, true, true, true, true, true, false, false, false] #[true, true, true, true, true, false, true, true, true, true, true, false, false, true, false] rfl rfl rfl rfl rfl rfl (three_of HT_.out (by kernel_rfl)) (by decide) (by decide) (by decide) (fun K hK => ?_) (fun K hK => ?_) (fun K hK => ?_)
      ·skip
       refine goes_ Tryd.func82 (by kernel_rfl) rfl #[.slice A1 F.length c1] (by rfl) rfl rfl (by (try simp only [List.map_toArray, List.map_cons, List.map_nil]); first | done | rfl) ?_
       refine (clone_calls A1 c1 F _ (Kd.C_below H1.out.1 HB.out.below) H1b.out).mono ?_
       rintro e wn ⟨v2, rfl, ho, hb⟩
       refine ⟨_, rfl, ?_⟩
       have K2 := Aside0.mk (Kd.R_lower ho HB.out.below.size)
       replace K1 := Aside0.mk (Kd.R_below K1.out hb)
       replace HB := Aside0.mk (HB.out.step hb)
       refine hK.out _ _ HB.out.held (fun hHeld => ?_)
       clear hK K hb ho
       refine norm_ (a' := ?_) ?_ ?_
       rotate_left
       ·show Act.put _ (some 25) _ = _
        simp only [Act.put, List.setIfInBounds_toArray, List.set_cons_zero, List.set_cons_succ, i64_w, i32_w]
        rfl
       refine two_ (i := 11) (j := 13) (Ni := some 31) (Nj := some 3) #[true, true, true, true, true, true, true, true, true, true, true, true, false, false, false] #[true, true, true, true, true, true, true, true, true, true, true, false, false, true, false] rfl rfl rfl rfl (two_of HT_.out (by kernel_rfl)) (by decide) (by decide) (fun K hK => ?_) (fun K hK => ?_)
       ·skip
        refine Kd.S_make_step kL (w0 := w) w.heap.size 25 (by rfl) (N := 31) rfl 22 _ _ rfl (L.length : Int) rfl rfl Tryd.underlying22 (.slice none 0 0) 24 info25 rfl (by decide) (by decide) [] (ok := fun k => k = wn.heap.size) (okp := fun _ => False) ⟨_, rfl, Kd.R_nil _ _ _ _ _⟩ (fun _ h => h.elim) rfl (by omega) (by omega) HB.out.below HB.out.below.size ?_
        intro v3 wm ho hb0 hg hat
        have hb : Below wn.heap.size wn wm := ⟨hg.1, hg.2, hg.3, hg.4, fun k hk => hg.block k hk (by simp)⟩
        have K3 := Aside0.mk (show ∃ g, Kd.S kL 25 wm w.heap.size (fun k => k = g) v3 (List.replicate L.length []) ∧ v3.ownBlock = some g from ⟨wn.heap.size, by rw [Int.toNat_natCast] at ho; exact ho, by obtain ⟨bb, hbb, _⟩ := hat; rw [hbb, ho.elim (fun f h => h.1 bb hbb)]⟩)
        replace K1 := Aside0.mk (Kd.R_below K1.out hb)
        replace K2 := Aside0.mk (Kd.R_below K2.out hb)
        replace HB := Aside0.mk (HB.out.step hb)
        clear hb0 hg hat
        refine hK.out _ _ HB.out.held (fun hHeld => ?_)
        clear hK K hb ho
        refine norm_ (a' := ?_) ?_ ?_
        rotate_left
        ·show Act.put _ (some 31) _ = _
         simp only [Act.put, List.setIfInBounds_toArray, List.set_cons_zero, List.set_cons_succ, i64_w, i32_w]
         rfl
        obtain ⟨wn, rfl⟩ : ∃ wn, wn = wm := ⟨_, rfl⟩
        obtain ⟨A2', c2', rfl⟩ := Kd.R_slice K1.out
        obtain ⟨A1', c1', rfl⟩ := Kd.R_slice K2.out
        obtain ⟨A3', c3', rfl⟩ : ∃ A c, v3 = .slice A L.length c := K3.out.elim (fun g h => by obtain ⟨A, c, e⟩ := Kd.S_slice h.1; rw [List.length_replicate] at e; exact ⟨A, c, e⟩)
        refine pure_ (i := 12) (N := some 32) (v := ?_) (a' := ?_) #[true, true, true, true, true, true, true, true, true, true, true, true, true, false, false] rfl rfl (any_of HT_.out (by kernel_rfl)) (fun _ _ _ h => h) (Or.inl ⟨by rfl, ?_⟩) ?_ ?_
        rotate_left
        ·intro w'
         go_simp
         with_reducible rfl
        rotate_left
        ·simp only [Act.put, List.setIfInBounds_toArray, List.set_cons_zero, List.set_cons_succ, i64_w, i32_w]
         rfl
        refine one_ (i := 13) (N := some 3) #[true, true, true, true, true, true, true, true, true, true, true, true, true, true, false] rfl rfl (one_of HT_.out (by kernel_rfl)) (by decide) (fun K hK => ?_)
        refine box_step ?hg (N := 3) ?hd (cs := #[.slice none 0 0, .slice none 0 0, .slice none 0 0, .slice none 0 0, .bool false]) (t := 42) ?hr ?_; (case hd => rfl); (case hg => rfl); (case hr => first | (go_simp; done) | (go_simp; rfl))
        intro b3 hg wn hbox hb
        have K4 := Aside0.mk (And.intro hbox (show w.heap.size + 1 < b3 from by rw [hg]; exact blk_lt HB.out.res))
        replace K1 := Aside0.mk (Kd.R_below K1.out hb)
        replace K2 := Aside0.mk (Kd.R_below K2.out hb)
        replace K3 := Aside0.mk (show ∃ g, Kd.S kL 25 _ w.heap.size (fun k => k = g) (.slice A3' L.length c3' : Value) (List.replicate L.length []) ∧ (.slice A3' L.length c3' : Value).ownBlock = some g from K3.out.elim (fun g h => ⟨g, Kd.S_below h.1 hb, h.2⟩))
        replace HB := Aside0.mk (HB.out.step hb)
        refine hK.out _ _ HB.out.held (fun hHeld => ?_)
        clear hK K hb hbox hg
        refine norm_ (a' := ?_) ?_ ?_
        rotate_left
        ·show Act.put _ (some 3) _ = _
         simp only [Act.put, List.setIfInBounds_toArray, List.set_cons_zero, List.set_cons_succ, i64_w, i32_w]
         rfl
        exact norm_ (by simp only [putAll, Act.put, List.setIfInBounds_toArray, List.set_cons_zero, List.set_cons_succ]) (hCont (.slice A2' La.length c2', .slice A1' F.length c1', .slice A3' L.length c3', b3) _ ⟨HB, K1, K2, K3, K4⟩)
       ·skip
        refine box_step ?hg (N := 3) ?hd (cs := #[.slice none 0 0, .slice none 0 0, .slice none 0 0, .slice none 0 0, .bool false]) (t := 42) ?hr ?_; (case hd => rfl); (case hg => rfl); (case hr => first | (go_simp; done) | (go_simp; rfl))
        intro b3 hg wn hbox hb
        have K4 := Aside0.mk (And.intro hbox (show w.heap.size + 1 < b3 from by rw [hg]; exact blk_lt HB.out.res))
        replace K1 := Aside0.mk (Kd.R_below K1.out hb)
        replace K2 := Aside0.mk (Kd.R_below K2.out hb)
        replace HB := Aside0.mk (HB.out.step hb)
        refine hK.out _ _ HB.out.held (fun hHeld => ?_)
        clear hK K hb hbox hg
        refine norm_ (a' := ?_) ?_ ?_
        rotate_left
        ·show Act.put _ (some 3) _ = _
         simp only [Act.put, List.setIfInBounds_toArray, List.set_cons_zero, List.set_cons_succ, i64_w, i32_w]
         rfl
        refine one_ (i := 11) (N := some 31) #[true, true, true, true, true, true, true, true, true, true, true, true, false, true, false] rfl rfl (one_of HT_.out (by kernel_rfl)) (by decide) (fun K hK => ?_)
        refine Kd.S_make_step kL (w0 := w) w.heap.size 25 (by rfl) (N := 31) rfl 22 _ _ rfl (L.length : Int) rfl rfl Tryd.underlying22 (.slice none 0 0) 24 info25 rfl (by decide) (by decide) [] (ok := fun k => k = wn.heap.size) (okp := fun _ => False) ⟨_, rfl, Kd.R_nil _ _ _ _ _⟩ (fun _ h => h.elim) rfl (by omega) (by omega) HB.out.below HB.out.below.size ?_
        intro v3 wm ho hb0 hg hat
        have hb : Below wn.heap.size wn wm := ⟨hg.1, hg.2, hg.3, hg.4, fun k hk => hg.block k hk (by simp)⟩
        have K3 := Aside0.mk (show ∃ g, Kd.S kL 25 wm w.heap.size (fun k => k = g) v3 (List.replicate L.length []) ∧ v3.ownBlock = some g from ⟨wn.heap.size, by rw [Int.toNat_natCast] at ho; exact ho, by obtain ⟨bb, hbb, _⟩ := hat; rw [hbb, ho.elim (fun f h => h.1 bb hbb)]⟩)
        replace K1 := Aside0.mk (Kd.R_below K1.out hb)
        replace K2 := Aside0.mk (Kd.R_below K2.out hb)
        replace K4 := Aside0.mk (And.intro ((hb.block _ (blk_lt K4.out.1)).trans K4.out.1) K4.out.2)
        replace HB := Aside0.mk (HB.out.step hb)
        clear hb0 hg hat
        refine hK.out _ _ HB.out.held (fun hHeld => ?_)
        clear hK K hb ho
        refine norm_ (a' := ?_) ?_ ?_
        rotate_left
        ·show Act.put _ (some 31) _ = _
         simp only [Act.put, List.setIfInBounds_toArray, List.set_cons_zero, List.set_cons_succ, i64_w, i32_w]
         rfl
        obtain ⟨wn, rfl⟩ : ∃ wn, wn = wm := ⟨_, rfl⟩
        obtain ⟨A2', c2', rfl⟩ := Kd.R_slice K1.out
        obtain ⟨A1', c1', rfl⟩ := Kd.R_slice K2.out
        obtain ⟨A3', c3', rfl⟩ : ∃ A c, v3 = .slice A L.length c := K3.out.elim (fun g h => by obtain ⟨A, c, e⟩ := Kd.S_slice h.1; rw [List.length_replicate] at e; exact ⟨A, c, e⟩)
        refine pure_ (i := 12) (N := some 32) (v := ?_) (a' := ?_) #[true, true, true, true, true, true, true, true, true, true, true, true, true, true, false] rfl rfl (any_of HT_.out (by kernel_rfl)) (fun _ _ _ h => h) (Or.inl ⟨by rfl, ?_⟩) ?_ ?_
        rotate_left
        ·intro w'
         go_simp
         with_reducible rfl
        rotate_left
        ·simp only [Act.put, List.setIfInBounds_toArray, List.set_cons_zero, List.set_cons_succ, i64_w, i32_w]
         rfl
        exact norm_ (by simp only [putAll, Act.put, List.setIfInBounds_toArray, List.set_cons_zero, List.set_cons_succ]) (hCont (.slice A2' La.length c2', .slice A1' F.length c1', .slice A3' L.length c3', b3) _ ⟨HB, K1, K2, K3, K4⟩)
      ·skip
       refine Kd.S_make_step kL (w0 := w) w.heap.size 25 (by rfl) (N := 31) rfl 22 _ _ rfl (L.length : Int) rfl rfl Tryd.underlying22 (.slice none 0 0) 24 info25 rfl (by decide) (by decide) [] (ok := fun k => k = wn.heap.size) (okp := fun _ => False) ⟨_, rfl, Kd.R_nil _ _ _ _ _⟩ (fun _ h => h.elim) rfl (by omega) (by omega) HB.out.below HB.out.below.size ?_
       intro v3 wm ho hb0 hg hat
       have hb : Below wn.heap.size wn wm := ⟨hg.1, hg.2, hg.3, hg.4, fun k hk => hg.block k hk (by simp)⟩
       have K3 := Aside0.mk (show ∃ g, Kd.S kL 25 wm w.heap.size (fun k => k = g) v3 (List.replicate L.length []) ∧ v3.ownBlock = some g from ⟨wn.heap.size, by rw [Int.toNat_natCast] at ho; exact ho, by obtain ⟨bb, hbb, _⟩ := hat; rw [hbb, ho.elim (fun f h => h.1 bb hbb)]⟩)
       replace K1 := Aside0.mk (Kd.R_below K1.out hb)
       replace HB := Aside0.mk (HB.out.step hb)
       clear hb0 hg hat
       refine hK.out _ _ HB.out.held (fun hHeld => ?_)
       clear hK K hb ho
       refine norm_ (a' := ?_) ?_ ?_
       rotate_left
       ·show Act.put _ (some 31) _ = _
        simp only [Act.put, List.setIfInBounds_toArray, List.set_cons_zero, List.set_cons_succ, i64_w, i32_w]
        rfl
       obtain ⟨wn, rfl⟩ : ∃ wn, wn = wm := ⟨_, rfl⟩
       refine two_ (i := 5) (j := 13) (Ni := some 25) (Nj := some 3) #[true, true, true, true, true, true, true, true, true, true, true, true, false, false, false] #[true, true, true, true, true, false, true, true, true, true, true, true, false, true, false] rfl rfl rfl rfl (two_of HT_.out (by kernel_rfl)) (by decide) (by decide) (fun K hK => ?_) (fun K hK => ?_)
       ·skip
        refine goes_ Tryd.func82 (by kernel_rfl) rfl #[.slice A1 F.length c1] (by rfl) rfl rfl (by (try simp only [List.map_toArray, List.map_cons, List.map_nil]); first | done | rfl) ?_
        refine (clone_calls A1 c1 F _ (Kd.C_below H1.out.1 HB.out.below) H1b.out).mono ?_
        rintro e wn ⟨v2, rfl, ho, hb⟩
        refine ⟨_, rfl, ?_⟩
        have K2 := Aside0.mk (Kd.R_lower ho HB.out.below.size)
        replace K1 := Aside0.mk (Kd.R_below K1.out hb)
        replace K3 := Aside0.mk (show ∃ g, Kd.S kL 25 _ w.heap.size (fun k => k = g) v3 (List.replicate L.length []) ∧ v3.ownBlock = some g from K3.out.elim (fun g h => ⟨g, Kd.S_below h.1 hb, h.2⟩))
        replace HB := Aside0.mk (HB.out.step hb)
        refine hK.out _ _ HB.out.held (fun hHeld => ?_)
        clear hK K hb ho
        refine norm_ (a' := ?_) ?_ ?_
        rotate_left
        ·show Act.put _ (some 25) _ = _
         simp only [Act.put, List.setIfInBounds_toArray, List.set_cons_zero, List.set_cons_succ, i64_w, i32_w]
         rfl
        obtain ⟨A2', c2', rfl⟩ := Kd.R_slice K1.out
        obtain ⟨A1', c1', rfl⟩ := Kd.R_slice K2.out
        obtain ⟨A3', c3', rfl⟩ : ∃ A c, v3 = .slice A L.length c := K3.out.elim (fun g h => by obtain ⟨A, c, e⟩ := Kd.S_slice h.1; rw [List.length_replicate] at e; exact ⟨A, c, e⟩)
        refine pure_ (i := 12) (N := some 32) (v := ?_) (a' := ?_) #[true, true, true, true, true, true, true, true, true, true, true, true, true, false, false] rfl rfl (any_of HT_.out (by kernel_rfl)) (fun _ _ _ h => h) (Or.inl ⟨by rfl, ?_⟩) ?_ ?_
        rotate_left
        ·intro w'
         go_simp
         with_reducible rfl
        rotate_left
        ·simp only [Act.put, List.setIfInBounds_toArray, List.set_cons_zero, List.set_cons_succ, i64_w, i32_w]
         rfl
        refine one_ (i := 13) (N := some 3) #[true, true, true, true, true, true, true, true, true, true, true, true, true, true, false] rfl rfl (one_of HT_.out (by kernel_rfl)) (by decide) (fun K hK => ?_)
        refine box_step ?hg (N := 3) ?hd (cs := #[.slice none 0 0, .slice none 0 0, .slice none 0 0, .slice none 0 0, .bool false]) (t := 42) ?hr ?_; (case hd => rfl); (case hg => rfl); (case hr => first | (go_simp; done) | (go_simp; rfl))
        intro b3 hg wn hbox hb
        have K4 := Aside0.mk (And.intro hbox (show w.heap.size + 1 < b3 from by rw [hg]; exact blk_lt HB.out.res))
        replace K1 := Aside0.mk (Kd.R_below K1.out hb)
        replace K2 := Aside0.mk (Kd.R_below K2.out hb)
        replace K3 := Aside0.mk (show ∃ g, Kd.S kL 25 _ w.heap.size (fun k => k = g) (.slice A3' L.length c3' : Value) (List.replicate L.length []) ∧ (.slice A3' L.length c3' : Value).ownBlock = some g from K3.out.elim (fun g h => ⟨g, Kd.S_below h.1 hb, h.2⟩))
        replace HB := Aside0.mk (HB.out.step hb)
        refine hK.out _ _ HB.out.held (fun hHeld => ?_)
        clear hK K hb hbox hg
        refine norm_ (a' := ?_) ?_ ?_
        rotate_left
        ·show Act.put _ (some 3) _ = _
         simp only [Act.put, List.setIfInBounds_toArray, List.set_cons_zero, List.set_cons_succ, i64_w, i32_w]
         rfl
        exact norm_ (by simp only [putAll, Act.put, List.setIfInBounds_toArray, List.set_cons_zero, List.set_cons_succ]) (hCont (.slice A2' La.length c2', .slice A1' F.length c1', .slice A3' L.length c3', b3) _ ⟨HB, K1, K2, K3, K4⟩)
       ·skip
        refine box_step ?hg (N := 3) ?hd (cs := #[.slice none 0 0, .slice none 0 0, .slice none 0 0, .slice none 0 0, .bool false]) (t := 42) ?hr ?_; (case hd => rfl); (case hg => rfl); (case hr => first | (go_simp; done) | (go_simp; rfl))
        intro b3 hg wn hbox hb
        have K4 := Aside0.mk (And.intro hbox (show w.heap.size + 1 < b3 from by rw [hg]; exact blk_lt HB.out.res))
        replace K1 := Aside0.mk (Kd.R_below K1.out hb)
        replace K3 := Aside0.mk (show ∃ g, Kd.S kL 25 _ w.heap.size (fun k => k = g) v3 (List.replicate L.length []) ∧ v3.ownBlock = some g from K3.out.elim (fun g h => ⟨g, Kd.S_below h.1 hb, h.2⟩))
        replace HB := Aside0.mk (HB.out.step hb)
        refine hK.out _ _ HB.out.held (fun hHeld => ?_)
        clear hK K hb hbox hg
        refine norm_ (a' := ?_) ?_ ?_
        rotate_left
        ·show Act.put _ (some 3) _ = _
         simp only [Act.put, List.setIfInBounds_toArray, List.set_cons_zero, List.set_cons_succ, i64_w, i32_w]
         rfl
        refine one_ (i := 5) (N := some 25) #[true, true, true, true, true, true, true, true, true, true, true, true, false, true, false] rfl rfl (one_of HT_.out (by kernel_rfl)) (by decide) (fun K hK => ?_)
        refine goes_ Tryd.func82 (by kernel_rfl) rfl #[.slice A1 F.length c1] (by rfl) rfl rfl (by (try simp only [List.map_toArray, List.map_cons, List.map_nil]); first | done | rfl) ?_
        refine (clone_calls A1 c1 F _ (Kd.C_below H1.out.1 HB.out.below) H1b.out).mono ?_
        rintro e wn ⟨v2, rfl, ho, hb⟩
        refine ⟨_, rfl, ?_⟩
        have K2 := Aside0.mk (Kd.R_lower ho HB.out.below.size)
        replace K1 := Aside0.mk (Kd.R_below K1.out hb)
        replace K3 := Aside0.mk (show ∃ g, Kd.S kL 25 _ w.heap.size (fun k => k = g) v3 (List.replicate L.length []) ∧ v3.ownBlock = some g from K3.out.elim (fun g h => ⟨g, Kd.S_below h.1 hb, h.2⟩))
        replace K4 := Aside0.mk (And.intro ((hb.block _ (blk_lt K4.out.1)).trans K4.out.1) K4.out.2)
        replace HB := Aside0.mk (HB.out.step hb)
        refine hK.out _ _ HB.out.held (fun hHeld => ?_)
        clear hK K hb ho
        refine norm_ (a' := ?_) ?_ ?_
        rotate_left
        ·show Act.put _ (some 25) _ = _
         simp only [Act.put, List.setIfInBounds_toArray, List.set_cons_zero, List.set_cons_succ, i64_w, i32_w]
         rfl
        obtain ⟨A2', c2', rfl⟩ := Kd.R_slice K1.out
        obtain ⟨A1', c1', rfl⟩ := Kd.R_slice K2.out
        obtain ⟨A3', c3', rfl⟩ : ∃ A c, v3 = .slice A L.length c := K3.out.elim (fun g h => by obtain ⟨A, c, e⟩ := Kd.S_slice h.1; rw [List.length_replicate] at e; exact ⟨A, c, e⟩)
        refine pure_ (i := 12) (N := some 32) (v := ?_) (a' := ?_) #[true, true, true, true, true, true, true, true, true, true, true, true, true, true, false] rfl rfl (any_of HT_.out (by kernel_rfl)) (fun _ _ _ h => h) (Or.inl ⟨by rfl, ?_⟩) ?_ ?_
        rotate_left
        ·intro w'
         go_simp
         with_reducible rfl
        rotate_left
        ·simp only [Act.put, List.setIfInBounds_toArray, List.set_cons_zero, List.set_cons_succ, i64_w, i32_w]
         rfl
        exact norm_ (by simp only [putAll, Act.put, List.setIfInBounds_toArray, List.set_cons_zero, List.set_cons_succ]) (hCont (.slice A2' La.length c2', .slice A1' F.length c1', .slice A3' L.length c3', b3) _ ⟨HB, K1, K2, K3, K4⟩)
      ·skip
       refine box_step ?hg (N := 3) ?hd (cs := #[.slice none 0 0, .slice none 0 0, .slice none 0 0, .slice none 0 0, .bool false]) (t := 42) ?hr ?_; (case hd => rfl); (case hg => rfl); (case hr => first | (go_simp; done) | (go_simp; rfl))
       intro b3 hg wn hbox hb
       have K4 := Aside0.mk (And.intro hbox (show w.heap.size + 1 < b3 from by rw [hg]; exact blk_lt HB.out.res))
       replace K1 := Aside0.mk (Kd.R_below K1.out hb)
       replace HB := Aside0.mk (HB.out.step hb)
       refine hK.out _ _ HB.out.held (fun hHeld => ?_)
       clear hK K hb hbox hg
       refine norm_ (a' := ?_) ?_ ?_
       rotate_left
       ·show Act.put _ (some 3) _ = _
        simp only [Act.put, List.setIfInBounds_toArray, List.set_cons_zero, List.set_cons_succ, i64_w, i32_w]
        rfl
       refine two_ (i := 5) (j := 11) (Ni := some 25) (Nj := some 31) #[true, true, true, true, true, true, true, true, true, true, true, false, false, true, false] #[true, true, true, true, true, false, true, true, true, true, true, true, false, true, false] rfl rfl rfl rfl (two_of HT_.out (by kernel_rfl)) (by decide) (by decide) (fun K hK => ?_) (fun K hK => ?_)
       ·skip
        refine goes_ Tryd.func82 (by kernel_rfl) rfl #[.slice A1 F.length c1] (by rfl) rfl rfl (by (try simp only [List.map_toArray, List.map_cons, List.map_nil]); first | done | rfl) ?_
        refine (clone_calls A1 c1 F _ (Kd.C_below H1.out.1 HB.out.below) H1b.out).mono ?_
        rintro e wn ⟨v2, rfl, ho, hb⟩
        refine ⟨_, rfl, ?_⟩
        have K2 := Aside0.mk (Kd.R_lower ho HB.out.below.size)
        replace K1 := Aside0.mk (Kd.R_below K1.out hb)
        replace K4 := Aside0.mk (And.intro ((hb.block _ (blk_lt K4.out.1)).trans K4.out.1) K4.out.2)
        replace HB := Aside0.mk (HB.out.step hb)
        refine hK.out _ _ HB.out.held (fun hHeld => ?_)
        clear hK K hb ho
        refine norm_ (a' := ?_) ?_ ?_
        rotate_left
        ·show Act.put _ (some 25) _ = _
         simp only [Act.put, List.setIfInBounds_toArray, List.set_cons_zero, List.set_cons_succ, i64_w, i32_w]
         rfl
        refine one_ (i := 11) (N := some 31) #[true, true, true, true, true, true, true, true, true, true, true, true, false, true, false] rfl rfl (one_of HT_.out (by kernel_rfl)) (by decide) (fun K hK => ?_)
        refine Kd.S_make_step kL (w0 := w) w.heap.size 25 (by rfl) (N := 31) rfl 22 _ _ rfl (L.length : Int) rfl rfl Tryd.underlying22 (.slice none 0 0) 24 info25 rfl (by decide) (by decide) [] (ok := fun k => k = wn.heap.size) (okp := fun _ => False) ⟨_, rfl, Kd.R_nil _ _ _ _ _⟩ (fun _ h => h.elim) rfl (by omega) (by omega) HB.out.below HB.out.below.size ?_
        intro v3 wm ho hb0 hg hat
        have hb : Below wn.heap.size wn wm := ⟨hg.1, hg.2, hg.3, hg.4, fun k hk => hg.block k hk (by simp)⟩
        have K3 := Aside0.mk (show ∃ g, Kd.S kL 25 wm w.heap.size (fun k => k = g) v3 (List.replicate L.length []) ∧ v3.ownBlock = some g from ⟨wn.heap.size, by rw [Int.toNat_natCast] at ho; exact ho, by obtain ⟨bb, hbb, _⟩ := hat; rw [hbb, ho.elim (fun f h => h.1 bb hbb)]⟩)
        replace K1 := Aside0.mk (Kd.R_below K1.out hb)
        replace K2 := Aside0.mk (Kd.R_below K2.out hb)
        replace K4 := Aside0.mk (And.intro ((hb.block _ (blk_lt K4.out.1)).trans K4.out.1) K4.out.2)
        replace HB := Aside0.mk (HB.out.step hb)
        clear hb0 hg hat
        refine hK.out _ _ HB.out.held (fun hHeld => ?_)
        clear hK K hb ho
        refine norm_ (a' := ?_) ?_ ?_
        rotate_left
        ·show Act.put _ (some 31) _ = _
         simp only [Act.put, List.setIfInBounds_toArray, List.set_cons_zero, List.set_cons_succ, i64_w, i32_w]
         rfl
        obtain ⟨wn, rfl⟩ : ∃ wn, wn = wm := ⟨_, rfl⟩
        obtain ⟨A2', c2', rfl⟩ := Kd.R_slice K1.out
        obtain ⟨A1', c1', rfl⟩ := Kd.R_slice K2.out
        obtain ⟨A3', c3', rfl⟩ : ∃ A c, v3 = .slice A L.length c := K3.out.elim (fun g h => by obtain ⟨A, c, e⟩ := Kd.S_slice h.1; rw [List.length_replicate] at e; exact ⟨A, c, e⟩)
        refine pure_ (i := 12) (N := some 32) (v := ?_) (a' := ?_) #[true, true, true, true, true, true, true, true, true, true, true, true, true, true, false] rfl rfl (any_of HT_.out (by kernel_rfl)) (fun _ _ _ h => h) (Or.inl ⟨by rfl, ?_⟩) ?_ ?_
        rotate_left
        ·intro w'
         go_simp
         with_reducible rfl
        rotate_left
        ·simp only [Act.put, List.setIfInBounds_toArray, List.set_cons_zero, List.set_cons_succ, i64_w, i32_w]
         rfl
        exact norm_ (by simp only [putAll, Act.put, List.setIfInBounds_toArray, List.set_cons_zero, List.set_cons_succ]) (hCont (.slice A2' La.length c2', .slice A1' F.length c1', .slice A3' L.length c3', b3) _ ⟨HB, K1, K2, K3, K4⟩)
       ·skip
        refine Kd.S_make_step kL (w0 := w) w.heap.size 25 (by rfl) (N := 31) rfl 22 _ _ rfl (L.length : Int) rfl rfl Tryd.underlying22 (.slice none 0 0) 24 info25 rfl (by decide) (by decide) [] (ok := fun k => k = wn.heap.size) (okp := fun _ => False) ⟨_, rfl, Kd.R_nil _ _ _ _ _⟩ (fun _ h => h.elim) rfl (by omega) (by omega) HB.out.below HB.out.below.size ?_
        intro v3 wm ho hb0 hg hat
        have hb : Below wn.heap.size wn wm := ⟨hg.1, hg.2, hg.3, hg.4, fun k hk => hg.block k hk (by simp)⟩
        have K3 := Aside0.mk (show ∃ g, Kd.S kL 25 wm w.heap.size (fun k => k = g) v3 (List.replicate L.length []) ∧ v3.ownBlock = some g from ⟨wn.heap.size, by rw [Int.toNat_natCast] at ho; exact ho, by obtain ⟨bb, hbb, _⟩ := hat; rw [hbb, ho.elim (fun f h => h.1 bb hbb)]⟩)
        replace K1 := Aside0.mk (Kd.R_below K1.out hb)
        replace K4 := Aside0.mk (And.intro ((hb.block _ (blk_lt K4.out.1)).trans K4.out.1) K4.out.2)
        replace HB := Aside0.mk (HB.out.step hb)
        clear hb0 hg hat
        refine hK.out _ _ HB.out.held (fun hHeld => ?_)
        clear hK K hb ho
        refine norm_ (a' := ?_) ?_ ?_
        rotate_left
        ·show Act.put _ (some 31) _ = _
         simp only [Act.put, List.setIfInBounds_toArray, List.set_cons_zero, List.set_cons_succ, i64_w, i32_w]
         rfl
        obtain ⟨wn, rfl⟩ : ∃ wn, wn = wm := ⟨_, rfl⟩
        refine one_ (i := 5) (N := some 25) #[true, true, true, true, true, true, true, true, true, true, true, true, false, true, false] rfl rfl (one_of HT_.out (by kernel_rfl)) (by decide) (fun K hK => ?_)
        refine goes_ Tryd.func82 (by kernel_rfl) rfl #[.slice A1 F.length c1] (by rfl) rfl rfl (by (try simp only [List.map_toArray, List.map_cons, List.map_nil]); first | done | rfl) ?_
        refine (clone_calls A1 c1 F _ (Kd.C_below H1.out.1 HB.out.below) H1b.out).mono ?_
        rintro e wn ⟨v2, rfl, ho, hb⟩
        refine ⟨_, rfl, ?_⟩
        have K2 := Aside0.mk (Kd.R_lower ho HB.out.below.size)
        replace K1 := Aside0.mk (Kd.R_below K1.out hb)
        replace K3 := Aside0.mk (show ∃ g, Kd.S kL 25 _ w.heap.size (fun k => k = g) v3 (List.replicate L.length []) ∧ v3.ownBlock = some g from K3.out.elim (fun g h => ⟨g, Kd.S_below h.1 hb, h.2⟩))
        replace K4 := Aside0.mk (And.intro ((hb.block _ (blk_lt K4.out.1)).trans K4.out.1) K4.out.2)
        replace HB := Aside0.mk (HB.out.step hb)
        refine hK.out _ _ HB.out.held (fun hHeld => ?_)
        clear hK K hb ho
        refine norm_ (a' := ?_) ?_ ?_
        rotate_left
        ·show Act.put _ (some 25) _ = _
         simp only [Act.put, List.setIfInBounds_toArray, List.set_cons_zero, List.set_cons_succ, i64_w, i32_w]
         rfl
        obtain ⟨A2', c2', rfl⟩ := Kd.R_slice K1.out
        obtain ⟨A1', c1', rfl⟩ := Kd.R_slice K2.out
        obtain ⟨A3', c3', rfl⟩ : ∃ A c, v3 = .slice A L.length c := K3.out.elim (fun g h => by obtain ⟨A, c, e⟩ := Kd.S_slice h.1; rw [List.length_replicate] at e; exact ⟨A, c, e⟩)
        refine pure_ (i := 12) (N := some 32) (v := ?_) (a' := ?_) #[true, true, true, true, true, true, true, true, true, true, true, true, true, true, false] rfl rfl (any_of HT_.out (by kernel_rfl)) (fun _ _ _ h => h) (Or.inl ⟨by rfl, ?_⟩) ?_ ?_
        rotate_left
        ·intro w'
         go_simp
         with_reducible rfl
        rotate_left
        ·simp only [Act.put, List.setIfInBounds_toArray, List.set_cons_zero, List.set_cons_succ, i64_w, i32_w]
         rfl
        exact norm_ (by simp only [putAll, Act.put, List.setIfInBounds_toArray, List.set_cons_zero, List.set_cons_succ]) (hCont (.slice A2' La.length c2', .slice A1' F.length c1', .slice A3' L.length c3', b3) _ ⟨HB, K1, K2, K3, K4⟩)
     ·skip
      refine Kd.S_make_step kL (w0 := w) w.heap.size 25 (by rfl) (N := 31) rfl 22 _ _ rfl (L.length : Int) rfl rfl Tryd.underlying22 (.slice none 0 0) 24 info25 rfl (by decide) (by decide) [] (ok := fun k => k = wn.heap.size) (okp := fun _ => False) ⟨_, rfl, Kd.R_nil _ _ _ _ _⟩ (fun _ h => h.elim) rfl (by omega) (by omega) HB.out.below HB.out.below.size ?_
      intro v3 wm ho hb0 hg hat
      have hb : Below wn.heap.size wn wm := ⟨hg.1, hg.2, hg.3, hg.4, fun k hk => hg.block k hk (by simp)⟩
      have K3 := Aside0.mk (show ∃ g, Kd.S kL 25 wm w.heap.size (fun k => k = g) v3 (List.replicate L.length []) ∧ v3.ownBlock = some g from ⟨wn.heap.size, by rw [Int.toNat_natCast] at ho; exact ho, by obtain ⟨bb, hbb, _⟩ := hat; rw [hbb, ho.elim (fun f h => h.1 bb hbb)]⟩)
      replace HB := Aside0.mk (HB.out.step hb)
      clear hb0 hg hat
      refine hK.out _ _ HB.out.held (fun hHeld => ?_)
      clear hK K hb ho
      refine norm_ (a' := ?_) ?_ ?_
      rotate_left
      ·show Act.put _ (some 31) _ = _
       simp only [Act.put, List.setIfInBounds_toArray, List.set_cons_zero, List.set_cons_succ, i64_w, i32_w]
       rfl
      obtain ⟨wn, rfl⟩ : ∃ wn, wn = wm := ⟨_, rfl⟩
      refine two_ (i := 2) (j := 13) (Ni := some 22) (Nj := some 3) #[true, true, true, true, true, false, true, true, true, true, true, true, false, false, false] #[true, true, false, true, true, false, true, true, true, true, true, true, false, true, false] rfl rfl rfl rfl (two_of HT_.out (by kernel_rfl)) (by decide) (by decide) (fun K hK => ?_) (fun K hK => ?_)
      ·skip
       refine goes_ Tryd.func82 (by kernel_rfl) rfl #[.slice A2 La.length c2] (by rfl) rfl rfl (by (try simp only [List.map_toArray, List.map_cons, List.map_nil]); first | done | rfl) ?_
       refine (clone_calls A2 c2 La _ (Kd.C_below H2.out.1 HB.out.below) H2b.out).mono ?_
       rintro e wn ⟨v1, rfl, ho, hb⟩
       refine ⟨_, rfl, ?_⟩
       have K1 := Aside0.mk (Kd.R_lower ho HB.out.below.size)
       replace K3 := Aside0.mk (show ∃ g, Kd.S kL 25 _ w.heap.size (fun k => k = g) v3 (List.replicate L.length []) ∧ v3.ownBlock = some g from K3.out.elim (fun g h => ⟨g, Kd.S_below h.1 hb, h.2⟩))
       replace HB := Aside0.mk (HB.out.step hb)
       refine hK.out _ _ HB.out.held (fun hHeld => ?_)
       clear hK K hb ho
       refine norm_ (a' := ?_) ?_ ?_
       rotate_left
       ·show Act.put _ (some 22) _ = _
        simp only [Act.put, List.setIfInBounds_toArray, List.set_cons_zero, List.set_cons_succ, i64_w, i32_w]
        rfl
       refine two_ (i := 5) (j := 13) (Ni := some 25) (Nj := some 3) #[true, true, true, true, true, true, true, true, true, true, true, true, false, false, false] #[true, true, true, true, true, false, true, true, true, true, true, true, false, true, false] rfl rfl rfl rfl (two_of HT_.out (by kernel_rfl)) (by decide) (by decide) (fun K hK => ?_) (fun K hK => ?_)
       ·skip
        refine goes_ Tryd.func82 (by kernel_rfl) rfl #[.slice A1 F.length c1] (by rfl) rfl rfl (by (try simp only [List.map_toArray, List.map_cons, List.map_nil]); first | done | rfl) ?_
        refine (clone_calls A1 c1 F _ (Kd.C_below H1.out.1 HB.out.below) H1b.out).mono ?_
        rintro e wn ⟨v2, rfl, ho, hb⟩
        refine ⟨_, rfl, ?_⟩
        have K2 := Aside0.mk (Kd.R_lower ho HB.out.below.size)
        replace K1 := Aside0.mk (Kd.R_below K1.out hb)
        replace K3 := Aside0.mk (show ∃ g, Kd.S kL 25 _ w.heap.size (fun k => k = g) v3 (List.replicate L.length []) ∧ v3.ownBlock = some g from K3.out.elim (fun g h => ⟨g, Kd.S_below h.1 hb, h.2⟩))
        replace HB := Aside0.mk (HB.out.step hb)
        refine hK.out _ _ HB.out.held (fun hHeld => ?_)
        clear hK K hb ho
        refine norm_ (a' := ?_) ?_ ?_
        rotate_left
        ·show Act.put _ (some 25) _ = _
         simp only [Act.put, List.setIfInBounds_toArray, List.set_cons_zero, List.set_cons_succ, i64_w, i32_w]
         rfl
        obtain ⟨A2', c2', rfl⟩ := Kd.R_slice K1.out
        obtain ⟨A1', c1', rfl⟩ := Kd.R_slice K2.out
        obtain ⟨A3', c3', rfl⟩ : ∃ A c, v3 = .slice A L.length c := K3.out.elim (fun g h => by obtain ⟨A, c, e⟩ := Kd.S_slice h.1; rw [List.length_replicate] at e; exact ⟨A, c, e⟩)
        refine pure_ (i := 12) (N := some 32) (v := ?_) (a' := ?_) #[true, true, true, true, true, true, true, true, true, true, true, true, true, false, false] rfl rfl (any_of HT_.out (by kernel_rfl)) (fun _ _ _ h => h) (Or.inl ⟨by rfl, ?_⟩) ?_ ?_
        rotate_left
        ·intro w'
         go_simp
         with_reducible rfl
        rotate_left
        ·simp only [Act.put, List.setIfInBounds_toArray, List.set_cons_zero, List.set_cons_succ, i64_w, i32_w]
         rfl
        refine one_ (i := 13) (N := some 3) #[true, true, true, true, true, true, true, true, true, true, true, true, true, true, false] rfl rfl (one_of HT_.out (by kernel_rfl)) (by decide) (fun K hK => ?_)
        refine box_step ?hg (N := 3) ?hd (cs := #[.slice none 0 0, .slice none 0 0, .slice none 0 0, .slice none 0 0, .bool false]) (t := 42) ?hr ?_; (case hd => rfl); (case hg => rfl); (case hr => first | (go_simp; done) | (go_simp; rfl))
        intro b3 hg wn hbox hb
        have K4 := Aside0.mk (And.intro hbox (show w.heap.size + 1 < b3 from by rw [hg]; exact blk_lt HB.out.res))
        replace K1 := Aside0.mk (Kd.R_below K1.out hb)
        replace K2 := Aside0.mk (Kd.R_below K2.out hb)
        replace K3 := Aside0.mk (show ∃ g, Kd.S kL 25 _ w.heap.size (fun k => k = g) (.slice A3' L.length c3' : Value) (List.replicate L.length []) ∧ (.slice A3' L.length c3' : Value).ownBlock = some g from K3.out.elim (fun g h => ⟨g, Kd.S_below h.1 hb, h.2⟩))
        replace HB := Aside0.mk (HB.out.step hb)
        refine hK.out _ _ HB.out.held (fun hHeld => ?_)
        clear hK K hb hbox hg
        refine norm_ (a' := ?_) ?_ ?_
        rotate_left
        ·show Act.put _ (some 3) _ = _
         simp only [Act.put, List.setIfInBounds_toArray, List.set_cons_zero, List.set_cons_succ, i64_w, i32_w]
         rfl
        exact norm_ (by simp only [putAll, Act.put, List.setIfInBounds_toArray, List.set_cons_zero, List.set_cons_succ]) (hCont (.slice A2' La.length c2', .slice A1' F.length c1', .slice A3' L.length c3', b3) _ ⟨HB, K1, K2, K3, K4⟩)
       ·skip
        refine box_step ?hg (N := 3) ?hd (cs := #[.slice none 0 0, .slice none 0 0, .slice none 0 0, .slice none 0 0, .bool false]) (t := 42) ?hr ?_; (case hd => rfl); (case hg => rfl); (case hr => first | (go_simp; done) | (go_simp; rfl))
        intro b3 hg wn hbox hb
        have K4 := Aside0.mk (And.intro hbox (show w.heap.size + 1 < b3 from by rw [hg]; exact blk_lt HB.out.res))
        replace K1 := Aside0.mk (Kd.R_below K1.out hb)
        replace K3 := Aside0.mk (show ∃ g, Kd.S kL 25 _ w.heap.size (fun k => k = g) v3 (List.replicate L.length []) ∧ v3.ownBlock = some g from K3.out.elim (fun g h => ⟨g, Kd.S_below h.1 hb, h.2⟩))
        replace HB := Aside0.mk (HB.out.step hb)
        refine hK.out _ _ HB.out.held (fun hHeld => ?_)
        clear hK K hb hbox hg
        refine norm_ (a' := ?_) ?_ ?_
        rotate_left
        ·show Act.put _ (some 3) _ = _
         simp only [Act.put, List.setIfInBounds_toArray, List.set_cons_zero, List.set_cons_succ, i64_w, i32_w]
         rfl
        refine one_ (i := 5) (N := some 25) #[true, true, true, true, true, true, true, true, true, true, true, true, false, true, false] rfl rfl (one_of HT_.out (by kernel_rfl)) (by decide) (fun K hK => ?_)
        refine goes_ Tryd.func82 (by kernel_rfl) rfl #[.slice A1 F.length c1] (by rfl) rfl rfl (by (try simp only [List.map_toArray, List.map_cons, List.map_nil]); first | done | rfl) ?_
        refine (clone_calls A1 c1 F _ (Kd.C_below H1.out.1 HB.out.below) H1b.out).mono ?_
        rintro e wn ⟨v2, rfl, ho, hb⟩
        refine ⟨_, rfl, ?_⟩
        have K2 := Aside0.mk (Kd.R_lower ho HB.out.below.size)
        replace K1 := Aside0.mk (Kd.R_below K1.out hb)
        replace K3 := Aside0.mk (show ∃ g, Kd.S kL 25 _ w.heap.size (fun k => k = g) v3 (List.replicate L.length []) ∧ v3.ownBlock = some g from K3.out.elim (fun g h => ⟨g, Kd.S_below h.1 hb, h.2⟩))
        replace K4 := Aside0.mk (And.intro ((hb.block _ (blk_lt K4.out.1)).trans K4.out.1) K4.out.2)
        replace HB := Aside0.mk (HB.out.step hb)
        refine hK.out _ _ HB.out.held (fun hHeld => ?_)
        clear hK K hb ho
        refine norm_ (a' := ?_) ?_ ?_
        rotate_left
        ·show Act.put _ (some 25) _ = _
         simp only [Act.put, List.setIfInBounds_toArray, List.set_cons_zero, List.set_cons_succ, i64_w, i32_w]
         rfl
        obtain ⟨A2', c2', rfl⟩ := Kd.R_slice K1.out
        obtain ⟨A1', c1', rfl⟩ := Kd.R_slice K2.out
        obtain ⟨A3', c3', rfl⟩ : ∃ A c, v3 = .slice A L.length c := K3.out.elim (fun g h => by obtain ⟨A, c, e⟩ := Kd.S_slice h.1; rw [List.length_replicate] at e; exact ⟨A, c, e⟩)
        refine pure_ (i := 12) (N := some 32) (v := ?_) (a' := ?_) #[true, true, true, true, true, true, true, true, true, true, true, true, true, true, false] rfl rfl (any_of HT_.out (by kernel_rfl)) (fun _ _ _ h => h) (Or.inl ⟨by rfl, ?_⟩) ?_ ?_
        rotate_left
        ·intro w'
         go_simp
         with_reducible rfl
        rotate_left
        ·simp only [Act.put, List.setIfInBounds_toArray, List.set_cons_zero, List.set_cons_succ, i64_w, i32_w]
         rfl
        exact norm_ (by simp only [putAll, Act.put, List.setIfInBounds_toArray, List.set_cons_zero, List.set_cons_succ]) (hCont (.slice A2' La.length c2', .slice A1' F.length c1', .slice A3' L.length c3', b3) _ ⟨HB, K1, K2, K3, K4⟩)
      ·skip
       refine box_step ?hg (N := 3) ?hd (cs := #[.slice none 0 0, .slice none 0 0, .slice none 0 0, .slice none 0 0, .bool false]) (t := 42) ?hr ?_; (case hd => rfl); (case hg => rfl); (case hr => first | (go_simp; done) | (go_simp; rfl))
       intro b3 hg wn hbox hb
       have K4 := Aside0.mk (And.intro hbox (show w.heap.size + 1 < b3 from by rw [hg]; exact blk_lt HB.out.res))
       replace K3 := Aside0.mk (show ∃ g, Kd.S kL 25 _ w.heap.size (fun k => k = g) v3 (List.replicate L.length []) ∧ v3.ownBlock = some g from K3.out.elim (fun g h => ⟨g, Kd.S_below h.1 hb, h.2⟩))
       replace HB := Aside0.mk (HB.out.step hb)
       refine hK.out _ _ HB.out.held (fun hHeld => ?_)
       clear hK K hb hbox hg
       refine norm_ (a' := ?_) ?_ ?_
       rotate_left
       ·show Act.put _ (some 3) _ = _
        simp only [Act.put, List.setIfInBounds_toArray, List.set_cons_zero, List.set_cons_succ, i64_w, i32_w]
        rfl
       refine one_ (i := 2) (N := some 22) #[true, true, true, true, true, false, true, true, true, true, true, true, false, true, false] rfl rfl (one_of HT_.out (by kernel_rfl)) (by decide) (fun K hK => ?_)
       refine goes_ Tryd.func82 (by kernel_rfl) rfl #[.slice A2 La.length c2] (by rfl) rfl rfl (by (try simp only [List.map_toArray, List.map_cons, List.map_nil]); first | done | rfl) ?_
       refine (clone_calls A2 c2 La _ (Kd.C_below H2.out.1 HB.out.below) H2b.out).mono ?_
       rintro e wn ⟨v1, rfl, ho, hb⟩
       refine ⟨_, rfl, ?_⟩
       have K1 := Aside0.mk (Kd.R_lower ho HB.out.below.size)
       replace K3 := Aside0.mk (show ∃ g, Kd.S kL 25 _ w.heap.size (fun k => k = g) v3 (List.replicate L.length []) ∧ v3.ownBlock = some g from K3.out.elim (fun g h => ⟨g, Kd.S_below h.1 hb, h.2⟩))
       replace K4 := Aside0.mk (And.intro ((hb.block _ (blk_lt K4.out.1)).trans K4.out.1) K4.out.2)
       replace HB := Aside0.mk (HB.out.step hb)
       refine hK.out _ _ HB.out.held (fun hHeld => ?_)
       clear hK K hb ho
       refine norm_ (a' := ?_) ?_ ?_
       rotate_left
       ·show Act.put _ (some 22) _ = _
        simp only [Act.put, List.setIfInBounds_toArray, List.set_cons_zero, List.set_cons_succ, i64_w, i32_w]
        rfl
       refine one_ (i := 5) (N := some 25) #[true, true, true, true, true, true, true, true, true, true, true, true, false, true, false] rfl rfl (one_of HT_.out (by kernel_rfl)) (by decide) (fun K hK => ?_)
       refine goes_ Tryd.func82 (by kernel_rfl) rfl #[.slice A1 F.length c1] (by rfl) rfl rfl (by (try simp only [List.map_toArray, List.map_cons, List.map_nil]); first | done | rfl) ?_
       refine (clone_calls A1 c1 F _ (Kd.C_below H1.out.1 HB.out.below) H1b.out).mono ?_
       rintro e wn ⟨v2, rfl, ho, hb⟩
       refine ⟨_, rfl, ?_⟩
       have K2 := Aside0.mk (Kd.R_lower ho HB.out.below.size)
       replace K1 := Aside0.mk (Kd.R_below K1.out hb)
       replace K3 := Aside0.mk (show ∃ g, Kd.S kL 25 _ w.heap.size (fun k => k = g) v3 (List.replicate L.length []) ∧ v3.ownBlock = some g from K3.out.elim (fun g h => ⟨g, Kd.S_below h.1 hb, h.2⟩))
       replace K4 := Aside0.mk (And.intro ((hb.block _ (blk_lt K4.out.1)).trans K4.out.1) K4.out.2)
       replace HB := Aside0.mk (HB.out.step hb)
       refine hK.out _ _ HB.out.held (fun hHeld => ?_)
       clear hK K hb ho
       refine norm_ (a' := ?_) ?_ ?_
       rotate_left
       ·show Act.put _ (some 25) _ = _
        simp only [Act.put, List.setIfInBounds_toArray, List.set_cons_zero, List.set_cons_succ, i64_w, i32_w]
        rfl
       obtain ⟨A2', c2', rfl⟩ := Kd.R_slice K1.out
       obtain ⟨A1', c1', rfl⟩ := Kd.R_slice K2.out
       obtain ⟨A3', c3', rfl⟩ : ∃ A c, v3 = .slice A L.length c := K3.out.elim (fun g h => by obtain ⟨A, c, e⟩ := Kd.S_slice h.1; rw [List.length_replicate] at e; exact ⟨A, c, e⟩)
       refine pure_ (i := 12) (N := some 32) (v := ?_) (a' := ?_) #[true, true, true, true, true, true, true, true, true, true, true, true, true, true, false] rfl rfl (any_of HT_.out (by kernel_rfl)) (fun _ _ _ h => h) (Or.inl ⟨by rfl, ?_⟩) ?_ ?_
       rotate_left
       ·intro w'
        go_simp
        with_reducible rfl
       rotate_left
       ·simp only [Act.put, List.setIfInBounds_toArray, List.set_cons_zero, List.set_cons_succ, i64_w, i32_w]
        rfl
       exact norm_ (by simp only [putAll, Act.put, List.setIfInBounds_toArray, List.set_cons_zero, List.set_cons_succ]) (hCont (.slice A2' La.length c2', .slice A1' F.length c1', .slice A3' L.length c3', b3) _ ⟨HB, K1, K2, K3, K4⟩)
     ·skip
      refine box_step ?hg (N := 3) ?hd (cs := #[.slice none 0 0, .slice none 0 0, .slice none 0 0, .slice none 0 0, .bool false]) (t := 42) ?hr ?_; (case hd => rfl); (case hg => rfl); (case hr => first | (go_simp; done) | (go_simp; rfl))
      intro b3 hg wn hbox hb
      have K4 := Aside0.mk (And.intro hbox (show w.heap.size + 1 < b3 from by rw [hg]; exact blk_lt HB.out.res))
      replace HB := Aside0.mk (HB.out.step hb)
      refine hK.out _ _ HB.out.held (fun hHeld => ?_)
      clear hK K hb hbox hg
      refine norm_ (a' := ?_) ?_ ?_
      rotate_left
      ·show Act.put _ (some 3) _ = _
       simp only [Act.put, List.setIfInBounds_toArray, List.set_cons_zero, List.set_cons_succ, i64_w, i32_w]
       rfl
      refine two_ (i := 2) (j := 11) (Ni := some 22) (Nj := some 31) #[true, true, true, true, true, false, true, true, true, true, true, false, false, true, false] #[true, true, false, true, true, false, true, true, true, true, true, true, false, true, false] rfl rfl rfl rfl (two_of HT_.out (by kernel_rfl)) (by decide) (by decide) (fun K hK => ?_) (fun K hK => ?_)
      ·skip
       refine goes_ Tryd.func82 (by kernel_rfl) rfl #[.slice A2 La.length c2] (by rfl) rfl rfl (by (try simp only [List.map_toArray, List.map_cons, List.map_nil]); first | done | rfl) ?_
       refine (clone_calls A2 c2 La _ (Kd.C_below H2.out.1 HB.out.below) H2b.out).mono ?_
       rintro e wn ⟨v1, rfl, ho, hb⟩
       refine ⟨_, rfl, ?_⟩
       have K1 := Aside0.mk (Kd.R_lower ho HB.out.below.size)
       replace K4 := Aside0.mk (And.intro ((hb.block _ (blk_lt K4.out.1)).trans K4.out.1) K4.out.2)
       replace HB := Aside0.mk (HB.out.step hb)
       refine hK.out _ _ HB.out.held (fun hHeld => ?_)
       clear hK K hb ho
       refine norm_ (a' := ?_) ?_ ?_
       rotate_left
       ·show Act.put _ (some 22) _ = _
        simp only [Act.put, List.setIfInBounds_toArray, List.set_cons_zero, List.set_cons_succ, i64_w, i32_w]
        rfl
       refine two_ (i := 5) (j := 11) (Ni := some 25) (Nj := some 31) #[true, true, true, true, true, true, true, true, true, true, true, false, false, true, false] #[true, true, true, true, true, false, true, true, true, true, true, true, false, true, false] rfl rfl rfl rfl (two_of HT_.out (by kernel_rfl)) (by decide) (by decide) (fun K hK => ?_) (fun K hK => ?_)
       ·skip
        refine goes_ Tryd.func82 (by kernel_rfl) rfl #[.slice A1 F.length c1] (by rfl) rfl rfl (by (try simp only [List.map_toArray, List.map_cons, List.map_nil]); first | done | rfl) ?_
        refine (clone_calls A1 c1 F _ (Kd.C_below H1.out.1 HB.out.below) H1b.out).mono ?_
        rintro e wn ⟨v2, rfl, ho, hb⟩
        refine ⟨_, rfl, ?_⟩
        have K2 := Aside0.mk (Kd.R_lower ho HB.out.below.size)
        replace K1 := Aside0.mk (Kd.R_below K1.out hb)
        replace K4 := Aside0.mk (And.intro ((hb.block _ (blk_lt K4.out.1)).trans K4.out.1) K4.out.2)
        replace HB := Aside0.mk (HB.out.step hb)
        refine hK.out _ _ HB.out.held (fun hHeld => ?_)
        clear hK K hb ho
        refine norm_ (a' := ?_) ?_ ?_
        rotate_left
        ·show Act.put _ (some 25) _ = _
         simp only [Act.put, List.setIfInBounds_toArray, List.set_cons_zero, List.set_cons_succ, i64_w, i32_w]
         rfl
        refine one_ (i := 11) (N := some 31) #[true, true, true, true, true, true, true, true, true, true, true, true, false, true, false] rfl rfl (one_of HT_.out (by kernel_rfl)) (by decide) (fun K hK => ?_)
        refine Kd.S_make_step kL (w0 := w) w.heap.size 25 (by rfl) (N := 31) rfl 22 _ _ rfl (L.length : Int) rfl rfl Tryd.underlying22 (.slice none 0 0) 24 info25 rfl (by decide) (by decide) [] (ok := fun k => k = wn.heap.size) (okp := fun _ => False) ⟨_, rfl, Kd.R_nil _ _ _ _ _⟩ (fun _ h => h.elim) rfl (by omega) (by omega) HB.out.below HB.out.below.size ?_
        intro v3 wm ho hb0 hg hat
        have hb : Below wn.heap.size wn wm := ⟨hg.1, hg.2, hg.3, hg.4, fun k hk => hg.block k hk (by simp)⟩
        have K3 := Aside0.mk (show ∃ g, Kd.S kL 25 wm w.heap.size (fun k => k = g) v3 (List.replicate L.length []) ∧ v3.ownBlock = some g from ⟨wn.heap.size, by rw [Int.toNat_natCast] at ho; exact ho, by obtain ⟨bb, hbb, _⟩ := hat; rw [hbb, ho.elim (fun f h => h.1 bb hbb)]⟩)
        replace K1 := Aside0.mk (Kd.R_below K1.out hb)
        replace K2 := Aside0.mk (Kd.R_below K2.out hb)
        replace K4 := Aside0.mk (And.intro ((hb.block _ (blk_lt K4.out.1)).trans K4.out.1) K4.out.2)
        replace HB := Aside0.mk (HB.out.step hb)
        clear hb0 hg hat
        refine hK.out _ _ HB.out.held (fun hHeld => ?_)
        clear hK K hb ho
        refine norm_ (a' := ?_) ?_ ?_
        rotate_left
        ·show Act.put _ (some 31) _ = _
         simp only [Act.put, List.setIfInBounds_toArray, List.set_cons_zero, List.set_cons_succ, i64_w, i32_w]
         rfl
        obtain ⟨wn, rfl⟩ : ∃ wn, wn = wm := ⟨_, rfl⟩
        obtain ⟨A2', c2', rfl⟩ := Kd.R_slice K1.out
        obtain ⟨A1', c1', rfl⟩ := Kd.R_slice K2.out
        obtain ⟨A3', c3', rfl⟩ : ∃ A c, v3 = .slice A L.length c := K3.out.elim (fun g h => by obtain ⟨A, c, e⟩ := Kd.S_slice h.1; rw [List.length_replicate] at e; exact ⟨A, c, e⟩)
        refine pure_ (i := 12) (N := some 32) (v := ?_) (a' := ?_) #[true, true, true, true, true, true, true, true, true, true, true, true, true, true, false] rfl rfl (any_of HT_.out (by kernel_rfl)) (fun _ _ _ h => h) (Or.inl ⟨by rfl, ?_⟩) ?_ ?_
        rotate_left
        ·intro w'
         go_simp
         with_reducible rfl
        rotate_left
        ·simp only [Act.put, List.setIfInBounds_toArray, List.set_cons_zero, List.set_cons_succ, i64_w, i32_w]
         rfl
        exact norm_ (by simp only [putAll, Act.put, List.setIfInBounds_toArray, List.set_cons_zero, List.set_cons_succ]) (hCont (.slice A2' La.length c2', .slice A1' F.length c1', .slice A3' L.length c3', b3) _ ⟨HB, K1, K2, K3, K4⟩)
       ·skip
        refine Kd.S_make_step kL (w0 := w) w.heap.size 25 (by rfl) (N := 31) rfl 22 _ _ rfl (L.length : Int) rfl rfl Tryd.underlying22 (.slice none 0 0) 24 info25 rfl (by decide) (by decide) [] (ok := fun k => k = wn.heap.size) (okp := fun _ => False) ⟨_, rfl, Kd.R_nil _ _ _ _ _⟩ (fun _ h => h.elim) rfl (by omega) (by omega) HB.out.below HB.out.below.size ?_
        intro v3 wm ho hb0 hg hat
        have hb : Below wn.heap.size wn wm := ⟨hg.1, hg.2, hg.3, hg.4, fun k hk => hg.block k hk (by simp)⟩
        have K3 := Aside0.mk (show ∃ g, Kd.S kL 25 wm w.heap.size (fun k => k = g) v3 (List.replicate L.length []) ∧ v3.ownBlock = some g from ⟨wn.heap.size, by rw [Int.toNat_natCast] at ho; exact ho, by obtain ⟨bb, hbb, _⟩ := hat; rw [hbb, ho.elim (fun f h => h.1 bb hbb)]⟩)
        replace K1 := Aside0.mk (Kd.R_below K1.out hb)
        replace K4 := Aside0.mk (And.intro ((hb.block _ (blk_lt K4.out.1)).trans K4.out.1) K4.out.2)
        replace HB := Aside0.mk (HB.out.step hb)
        clear hb0 hg hat
        refine hK.out _ _ HB.out.held (fun hHeld => ?_)
        clear hK K hb ho
        refine norm_ (a' := ?_) ?_ ?_
        rotate_left
        ·show Act.put _ (some 31) _ = _
         simp only [Act.put, List.setIfInBounds_toArray, List.set_cons_zero, List.set_cons_succ, i64_w, i32_w]
         rfl
        obtain ⟨wn, rfl⟩ : ∃ wn, wn = wm := ⟨_, rfl⟩
        refine one_ (i := 5) (N := some 25) #[true, true, true, true, true, true, true, true, true, true, true, true, false, true, false] rfl rfl (one_of HT_.out (by kernel_rfl)) (by decide) (fun K hK => ?_)
        refine goes_ Tryd.func82 (by kernel_rfl) rfl #[.slice A1 F.length c1] (by rfl) rfl rfl (by (try simp only [List.map_toArray, List.map_cons, List.map_nil]); first | done | rfl) ?_
        refine (clone_calls A1 c1 F _ (Kd.C_below H1.out.1 HB.out.below) H1b.out).mono ?_
        rintro e wn ⟨v2, rfl, ho, hb⟩
        refine ⟨_, rfl, ?_⟩
        have K2 := Aside0.mk (Kd.R_lower ho HB.out.below.size)
        replace K1 := Aside0.mk (Kd.R_below K1.out hb)
        replace K3 := Aside0.mk (show ∃ g, Kd.S kL 25 _ w.heap.size (fun k => k = g) v3 (List.replicate L.length []) ∧ v3.ownBlock = some g from K3.out.elim (fun g h => ⟨g, Kd.S_below h.1 hb, h.2⟩))
        replace K4 := Aside0.mk (And.intro ((hb.block _ (blk_lt K4.out.1)).trans K4.out.1) K4.out.2)
        replace HB := Aside0.mk (HB.out.step hb)
        refine hK.out _ _ HB.out.held (fun hHeld => ?_)
        clear hK K hb ho
        refine norm_ (a' := ?_) ?_ ?_
        rotate_left
        ·show Act.put _ (some 25) _ = _
         simp only [Act.put, List.setIfInBounds_toArray, List.set_cons_zero, List.set_cons_succ, i64_w, i32_w]
         rfl
        obtain ⟨A2', c2', rfl⟩ := Kd.R_slice K1.out
        obtain ⟨A1', c1', rfl⟩ := Kd.R_slice K2.out
        obtain ⟨A3', c3', rfl⟩ : ∃ A c, v3 = .slice A L.length c := K3.out.elim (fun g h => by obtain ⟨A, c, e⟩ := Kd.S_slice h.1; rw [List.length_replicate] at e; exact ⟨A, c, e⟩)
        refine pure_ (i := 12) (N := some 32) (v := ?_) (a' := ?_) #[true, true, true, true, true, true, true, true, true, true, true, true, true, true, false] rfl rfl (any_of HT_.out (by kernel_rfl)) (fun _ _ _ h => h) (Or.inl ⟨by rfl, ?_⟩) ?_ ?_
        rotate_left
        ·intro w'
         go_simp
         with_reducible rfl
        rotate_left
        ·simp only [Act.put, List.setIfInBounds_toArray, List.set_cons_zero, List.set_cons_succ, i64_w, i32_w]
         rfl
        exact norm_ (by simp only [putAll, Act.put, List.setIfInBounds_toArray, List.set_cons_zero, List.set_cons_succ]) (hCont (.slice A2' La.length c2', .slice A1' F.length c1', .slice A3' L.length c3', b3) _ ⟨HB, K1, K2, K3, K4⟩)
      ·skip
       refine Kd.S_make_step kL (w0 := w) w.heap.size 25 (by rfl) (N := 31) rfl 22 _ _ rfl (L.length : Int) rfl rfl Tryd.underlying22 (.slice none 0 0) 24 info25 rfl (by decide) (by decide) [] (ok := fun k => k = wn.heap.size) (okp := fun _ => False) ⟨_, rfl, Kd.R_nil _ _ _ _ _⟩ (fun _ h => h.elim) rfl (by omega) (by omega) HB.out.below HB.out.below.size ?_
       intro v3 wm ho hb0 hg hat
       have hb : Below wn.heap.size wn wm := ⟨hg.1, hg.2, hg.3, hg.4, fun k hk => hg.block k hk (by simp)⟩
       have K3 := Aside0.mk (show ∃ g, Kd.S kL 25 wm w.heap.size (fun k => k = g) v3 (List.replicate L.length []) ∧ v3.ownBlock = some g from ⟨wn.heap.size, by rw [Int.toNat_natCast] at ho; exact ho, by obtain ⟨bb, hbb, _⟩ := hat; rw [hbb, ho.elim (fun f h => h.1 bb hbb)]⟩)
       replace K4 := Aside0.mk (And.intro ((hb.block _ (blk_lt K4.out.1)).trans K4.out.1) K4.out.2)
       replace HB := Aside0.mk (HB.out.step hb)
       clear hb0 hg hat
       refine hK.out _ _ HB.out.held (fun hHeld => ?_)
       clear hK K hb ho
       refine norm_ (a' := ?_) ?_ ?_
       rotate_left
       ·show Act.put _ (some 31) _ = _
        simp only [Act.put, List.setIfInBounds_toArray, List.set_cons_zero, List.set_cons_succ, i64_w, i32_w]
        rfl
       obtain ⟨wn, rfl⟩ : ∃ wn, wn = wm := ⟨_, rfl⟩
       refine one_ (i := 2) (N := some 22) #[true, true, true, true, true, false, true, true, true, true, true, true, false, true, false] rfl rfl (one_of HT_.out (by kernel_rfl)) (by decide) (fun K hK => ?_)
       refine goes_ Tryd.func82 (by kernel_rfl) rfl #[.slice A2 La.length c2] (by rfl) rfl rfl (by (try simp only [List.map_toArray, List.map_cons, List.map_nil]); first | done | rfl) ?_
       refine (clone_calls A2 c2 La _ (Kd.C_below H2.out.1 HB.out.below) H2b.out).mono ?_
       rintro e wn ⟨v1, rfl, ho, hb⟩
       refine ⟨_, rfl, ?_⟩
       have K1 := Aside0.mk (Kd.R_lower ho HB.out.below.size)
       replace K3 := Aside0.mk (show ∃ g, Kd.S kL 25 _ w.heap.size (fun k => k = g) v3 (List.replicate L.length []) ∧ v3.ownBlock = some g from K3.out.elim (fun g h => ⟨g, Kd.S_below h.1 hb, h.2⟩))
       replace K4 := Aside0.mk (And.intro ((hb.block _ (blk_lt K4.out.1)).trans K4.out.1) K4.out.2)
       replace HB := Aside0.mk (HB.out.step hb)
       refine hK.out _ _ HB.out.held (fun hHeld => ?_)
       clear hK K hb ho
       refine norm_ (a' := ?_) ?_ ?_
       rotate_left
       ·show Act.put _ (some 22) _ = _
        simp only [Act.put, List.setIfInBounds_toArray, List.set_cons_zero, List.set_cons_succ, i64_w, i32_w]
        rfl
       refine one_ (i := 5) (N := some 25) #[true, true, true, true, true, true, true, true, true, true, true, true, false, true, false] rfl rfl (one_of HT_.out (by kernel_rfl)) (by decide) (fun K hK => ?_)
       refine goes_ Tryd.func82 (by kernel_rfl) rfl #[.slice A1 F.length c1] (by rfl) rfl rfl (by (try simp only [List.map_toArray, List.map_cons, List.map_nil]); first | done | rfl) ?_
       refine (clone_calls A1 c1 F _ (Kd.C_below H1.out.1 HB.out.below) H1b.out).mono ?_
       rintro e wn ⟨v2, rfl, ho, hb⟩
       refine ⟨_, rfl, ?_⟩
       have K2 := Aside0.mk (Kd.R_lower ho HB.out.below.size)
       replace K1 := Aside0.mk (Kd.R_below K1.out hb)
       replace K3 := Aside0.mk (show ∃ g, Kd.S kL 25 _ w.heap.size (fun k => k = g) v3 (List.replicate L.length []) ∧ v3.ownBlock = some g from K3.out.elim (fun g h => ⟨g, Kd.S_below h.1 hb, h.2⟩))
       replace K4 := Aside0.mk (And.intro ((hb.block _ (blk_lt K4.out.1)).trans K4.out.1) K4.out.2)
       replace HB := Aside0.mk (HB.out.step hb)
       refine hK.out _ _ HB.out.held (fun hHeld => ?_)
       clear hK K hb ho
       refine norm_ (a' := ?_) ?_ ?_
       rotate_left
       ·show Act.put _ (some 25) _ = _
        simp only [Act.put, List.setIfInBounds_toArray, List.set_cons_zero, List.set_cons_succ, i64_w, i32_w]
        rfl
       obtain ⟨A2', c2', rfl⟩ := Kd.R_slice K1.out
       obtain ⟨A1', c1', rfl⟩ := Kd.R_slice K2.out
       obtain ⟨A3', c3', rfl⟩ : ∃ A c, v3 = .slice A L.length c := K3.out.elim (fun g h => by obtain ⟨A, c, e⟩ := Kd.S_slice h.1; rw [List.length_replicate] at e; exact ⟨A, c, e⟩)
       refine pure_ (i := 12) (N := some 32) (v := ?_) (a' := ?_) #[true, true, true, true, true, true, true, true, true, true, true, true, true, true, false] rfl rfl (any_of HT_.out (by kernel_rfl)) (fun _ _ _ h => h) (Or.inl ⟨by rfl, ?_⟩) ?_ ?_
       rotate_left
       ·intro w'
        go_simp
        with_reducible rfl
       rotate_left
       ·simp only [Act.put, List.setIfInBounds_toArray, List.set_cons_zero, List.set_cons_succ, i64_w, i32_w]
        rfl
       exact norm_ (by simp only [putAll, Act.put, List.setIfInBounds_toArray, List.set_cons_zero, List.set_cons_succ]) (hCont (.slice A2' La.length c2', .slice A1' F.length c1', .slice A3' L.length c3', b3) _ ⟨HB, K1, K2, K3, K4⟩)
    rintro ⟨v1, v2, v3, b3⟩ wn ⟨HB, K1, K2, K3, K4⟩
    obtain ⟨g3, K3g⟩ := K3.out
    clear K3
    replace HB : Aside0 (RB w w.heap.size (.slice A0 L.length c0) (.slice A1 F.length c1) (.slice A2 La.length c2) (.slice A3 Fo.length c3) b wn) := HB
    replace K1 : Aside0 (Kd.R kI 3 wn w.heap.size (fun _ => True) v1 La) := K1
    replace K2 : Aside0 (Kd.R kI 3 wn w.heap.size (fun _ => True) v2 F) := K2
    have K3 : Aside0 (Kd.S kL 25 wn w.heap.size (fun k => k = g3) v3 (List.replicate L.length []) ∧ v3.ownBlock = some g3) := ⟨K3g⟩
    clear K3g
    replace K4 : Aside0 (wn.heap[b3]? = some (.cells #[.slice none 0 0, .slice none 0 0, .slice none 0 0, .slice none 0 0, .bool false] 42 (0, 0)) ∧ w.heap.size + 1 < b3) := K4
    obtain ⟨A2', c2', rfl⟩ := Kd.R_slice K1.out
    obtain ⟨A1', c1', rfl⟩ := Kd.R_slice K2.out
    obtain ⟨A3', c3', hv3⟩ := Kd.S_slice K3.out.1
    rw [List.length_replicate] at hv3
    obtain rfl := hv3
    have hHeld := HB.out.held
    refine norm_ (a' := ?_) ?_ ?_
    rotate_left
    ·simp only [putAll, Act.put, List.setIfInBounds_toArray, List.set_cons_zero, List.set_cons_succ]
     rfl
    refine last_ (i := 14) (N := none) #[true, true, true, true, true, true, true, true, true, true, true, true, true, true, true] rfl rfl (one_of HT_.out (by kernel_rfl)) (by decide) (fun K hK => ?_)
    have hs0 : wn.cell? ⟨b3, 0, none⟩ = some (.slice none 0 0) := (blk_cell K4.out.1 0).trans rfl
    have hs1 : wn.cell? ⟨b3, 1, none⟩ = some (.slice none 0 0) := (blk_cell K4.out.1 1).trans rfl
    have hs2 : wn.cell? ⟨b3, 2, none⟩ = some (.slice none 0 0) := (blk_cell K4.out.1 2).trans rfl
    have hs3 : wn.cell? ⟨b3, 3, none⟩ = some (.slice none 0 0) := (blk_cell K4.out.1 3).trans rfl
    have hs4 : wn.cell? ⟨b3, 4, none⟩ = some (.bool false) := (blk_cell K4.out.1 4).trans rfl
    have hf0 : wn.frozen? ⟨b3, 0, none⟩ = false := blk_frozen K4.out.1 0
    have hf1 : wn.frozen? ⟨b3, 1, none⟩ = false := blk_frozen K4.out.1 1
    have hf2 : wn.frozen? ⟨b3, 2, none⟩ = false := blk_frozen K4.out.1 2
    have hf3 : wn.frozen? ⟨b3, 3, none⟩ = false := blk_frozen K4.out.1 3
    have hf4 : wn.frozen? ⟨b3, 4, none⟩ = false := blk_frozen K4.out.1 4
    refine skip_ (w1 := ?_) (by rfl) rfl ?_ ?_
    rotate_left
    ·go_simp
     rfl
    refine hK.out _ _ ?_
    clear hK K
    refine done_ (done_of HT_.out (by kernel_rfl)) ?_
    
    go_wp2
    go_meet
    refine ⟨A2', c2', A1', c1', A3', c3', g3, b3, rfl, ⟨?_⟩, ⟨?_⟩, ⟨?_⟩, ⟨?_, K3.out.2⟩, ⟨?_, K4.out.2⟩⟩
    ·exact ((((HB.out.set K4.out.2 0 _).set K4.out.2 1 _).set K4.out.2 2 _).set K4.out.2 3 _).set K4.out.2 4 _
    ·exact R_set5 K1.out K4.out.1 types42i _ _ _ _ _
    ·exact R_set5 K2.out K4.out.1 types42i _ _ _ _ _
    ·exact Kd.S_set (Kd.S_set (Kd.S_set (Kd.S_set (Kd.S_set K3.out.1 K4.out.1 types42 0 _) (blk_set K4.out.1 0 _) types42 1 _) (blk_set (blk_set K4.out.1 0 _) 1 _) types42 2 _) (blk_set (blk_set (blk_set K4.out.1 0 _) 1 _) 2 _) types42 3 _) (blk_set (blk_set (blk_set (blk_set K4.out.1 0 _) 1 _) 2 _) 3 _) types42 4 _
    ·exact (blk_put (blk_put (blk_put (blk_put (blk_put K4.out.1 0 _ rfl) 1 _ rfl) 2 _ rfl) 3 _ rfl) 4 _ rfl)
   case rest =>
    obtain ⟨A2', c2', A1', c1', A3', c3', g3, b3, rfl, HB, K1, K2, K3, K4⟩ := hcut
    obtain rfl : A3' = some ⟨g3, 0, none⟩ := by
     cases A3' with
     | none => exact absurd K3.out.2 (by simp [Value.ownBlock])
     | some a3 =>
      obtain ⟨g, rfl⟩ := Kd.R_head (Kd.S_R K3.out.1)
      have := Option.some.inj K3.out.2
      rw [show g = g3 from this]
    obtain ⟨N, hN⟩ : ∃ N, N = wc.heap.size := ⟨_, rfl⟩
    have hNlt := hN
    have HL0 : Aside0 (Ls w N b3 g3 (.slice A0 L.length c0) (.slice A1 F.length c1) (.slice A2 La.length c2) (.slice A3 Fo.length c3) (.slice none 0 0) (.slice A2' La.length c2') (.slice A1' F.length c1') (.slice (some ⟨g3, 0, none⟩) L.length c3') b La F (fun k => N ≤ k) (fun k => k = g3) [] (List.replicate L.length []) wc) :=
     ⟨⟨HB.out, K4.out.1, Kd.S_nil _ _ _ _ _, Kd.R_mono (Kd.R_bound K1.out) (fun k hk => by rw [hN]; exact hk.2.2.1), Kd.R_mono (Kd.R_bound K2.out) (fun k hk => by rw [hN]; exact hk.2.2.1), K3.out.1, K4.out.2, by rw [hN]; exact blk_lt K4.out.1, by rw [hN]; exact Kd.S_lt K3.out.1 g3 K3.out.2, by omega, K3.out.2⟩⟩
    clear HB K1 K2 K3 K4
    have HL := HL0
    obtain ⟨f0, f1, f2, f3, f4⟩ := HL.out.rb.held
    have hb1 := C_bound H0.out.1
    go_wp2_with fail
    go_loopg [36] L.length (fun gg v36 wr => ∃ (kk : Nat) (v0 : Value), kk ≤ L.length ∧ L.length - kk ≤ gg ∧ v36 = .int .i64 kk ∧ Aside0 (Ls w N b3 g3 (.slice A0 L.length c0) (.slice A1 F.length c1) (.slice A2 La.length c2) (.slice A3 Fo.length c3) v0 (.slice A2' La.length c2') (.slice A1' F.length c1') (.slice (some ⟨g3, 0, none⟩) L.length c3') b La F (fun k => N ≤ k) (fun k => k = g3) (L.take kk) (List.replicate L.length []) wr))
    case atStart => exact ⟨0, _, Nat.zero_le _, by omega, rfl, HL⟩
    case round =>
     clear HL HL0 f0 f1 f2 f3 f4
     obtain ⟨kk, v0, hkk, hg, rfl, HL⟩ := hrel
     by_cases hlt : kk < L.length
     ·have hltz : (kk : Int) < (L.length : Int) := by omega
      obtain ⟨ad, A5, c5, rfl, hcell', h5, h6⟩ := list_at H0.out.1 kk L[kk] (List.getElem?_eq_getElem hlt)
      have hcell := pw_cell_below HL.out.rb.below hcell'
      have hx : Aside0 (L[kk].length ≤ 17592186043904) := ⟨HLb.out _ (List.getElem_mem hlt)⟩
      have hsn : Aside0 (L.take kk ++ [L[kk]] = L.take (kk + 1)) := ⟨by rw [List.take_add_one, List.getElem?_eq_getElem hlt]; rfl⟩
      generalize L[kk] = x at hcell hcell' h5 h6 hx hsn
      have H6 := Aside0.mk (And.intro h5 h6)
      clear h5 h6 hcell'
      go_upto_region 7 with fail
      clear hcell
      replace HL := Aside0.mk (HL.out.step (below_drew (Below.refl _ wr)))
      refine start_ (n := 8) (S := fun w' => w'.cell? ⟨b3, 0, none⟩ = some v0) (ds := [7]) #[false, false, false, false, false, false, false, false] (by kernel_rfl) rfl rfl ((blk_cell HL.out.row 0).trans rfl) (fun hHeld => ?_)
      refine with_tabW rev.tab7 rev.bits7 (fun HT_ HW_ => ?_)
      generalize wr.drew = wn at HL hHeld ⊢
      refine pure_ (i := 0) (N := some 40) (v := ?_) (a' := ?_) #[true, false, false, false, false, false, false, false] rfl rfl (any_of HT_.out (by kernel_rfl)) (fun _ _ _ h => h) (Or.inl ⟨by rfl, ?_⟩) ?_ ?_
      rotate_left
      ·intro w'
       go_simp
       with_reducible rfl
      rotate_left
      ·simp only [Act.put, List.setIfInBounds_toArray, List.set_cons_zero, List.set_cons_succ, i64_w, i32_w]
       rfl
      refine take_ (i := 1) (N := some 41) (v := ?_) (a' := ?_) #[true, true, false, false, false, false, false, false] rfl rfl (take_ofW HT_.out HW_.out (by kernel_rfl)) (fun _ _ _ h => h) (Or.inl ⟨by rfl, ?_⟩) hHeld ?_ ?_
      rotate_left
      ·intro w' s0
       go_simp
       with_reducible rfl
      rotate_left
      ·simp only [Act.put, List.setIfInBounds_toArray, List.set_cons_zero, List.set_cons_succ, i64_w, i32_w]
       rfl
      refine pure_ (i := 2) (N := some 42) (v := ?_) (a' := ?_) #[true, true, true, false, false, false, false, false] rfl rfl (any_of HT_.out (by kernel_rfl)) (fun _ _ _ h => h) (Or.inl ⟨by rfl, ?_⟩) ?_ ?_
      rotate_left
      ·intro w'
       go_simp
       with_reducible rfl
      rotate_left
      ·simp only [Act.put, List.setIfInBounds_toArray, List.set_cons_zero, List.set_cons_succ, i64_w, i32_w]
       rfl
      refine one_ (i := 3) (N := some 43) #[true, true, true, true, false, false, false, false] rfl rfl (one_of HT_.out (by kernel_rfl)) (by decide) (fun K hK => ?_)
      refine goes_ Tryd.func82 (by kernel_rfl) rfl #[.slice A5 x.length c5] (by rfl) rfl rfl (by (try simp only [List.map_toArray, List.map_cons, List.map_nil]); first | done | rfl) ?_
      refine (clone_calls A5 c5 x _ (Kd.C_below H6.out.2 HL.out.rb.below) hx.out).mono ?_
      rintro e wm ⟨vx, rfl, ho, hb⟩
      refine ⟨_, rfl, ?_⟩
      obtain ⟨A6, c6, rfl⟩ := Kd.R_slice ho
      have HX := Aside0.mk (And.intro (Kd.R_base ho) (Kd.R_lower (Kd.R_tight rfl ho) HL.out.rb.below.size))
      have HV := Aside0.mk (And.intro (Kd.S_lt HL.out.k0) HL.out.nW)
      have HS := Aside0.mk (Kd.S_old HL.out.k0 hb)
      replace HL := Aside0.mk (HL.out.step hb)
      refine hK.out _ _ ((blk_cell HL.out.row 0).trans rfl) (fun hHeld => ?_)
      clear hK K hb ho
      refine norm_ (a' := ?_) ?_ ?_
      rotate_left
      ·show Act.put _ (some 43) _ = _
       simp only [Act.put, List.setIfInBounds_toArray, List.set_cons_zero, List.set_cons_succ, i64_w, i32_w]
       rfl
      refine one_ (i := 4) (N := some 44) #[true, true, true, true, true, false, false, false] rfl rfl (one_of HT_.out (by kernel_rfl)) (by decide) (fun K hK => ?_)
      refine value_ (w1 := ?_) (v := ?_) (by rfl) rfl ?_ ?_
      rotate_left 2
      ·go_simp
       constructor
       ·rfl
       ·rfl
      refine hK.out _ _ ((blk_cell (blk_alloc HL.out.row _) 0).trans rfl) (fun hHeld => ?_)
      clear hK K
      refine norm_ (a' := ?_) ?_ ?_
      rotate_left
      ·show Act.put _ (some 44) _ = _
       simp only [Act.put, List.setIfInBounds_toArray, List.set_cons_zero, List.set_cons_succ, i64_w, i32_w]
       rfl
      refine one_ (i := 5) (N := some 45) #[true, true, true, true, true, true, false, false] rfl rfl (one_of HT_.out (by kernel_rfl)) (by decide) (fun K hK => ?_)
      refine Kd.S_append_step kL (w0 := w) w.heap.size (by rfl) (.tmp 41) (.tmp 44) 22 25 (.slice none 0 0) 24 rfl Tryd.underlying22 info25 rfl (by decide) (by omega) v0 (L.take kk) x [.slice A6 x.length c6] (fun k => N ≤ k) (fun k => some k = (.slice A6 x.length c6 : Value).ownBlock) rfl rfl ?aP ?aK ?aF ?aO ?aB ?aS ?aL ?_
      case aP => exact Kd.M_row HX.out.2
      case aK => exact fun k hk => ⟨by have := HX.out.1 k hk.symm; have := HV.out.2; omega, fun he => by have := HX.out.1 k hk.symm; have := HV.out.1 k he.symm; omega⟩
      case aF => exact fun k hk => by have := HL.out.nW; omega
      case aO => exact Kd.S_mono HS.out (fun k hk => ⟨hk.1, fun he => by have := HX.out.1 k he.symm; omega⟩)
      case aB => exact HL.out.rb.below
      case aS => exact HL.out.rb.below.size
      case aL => simp only [List.length_take]; omega
      intro v0' wq ho hb hg hat
      obtain ⟨A7, c7, e7⟩ := Kd.S_slice ho
      generalize (L.take kk ++ [x]).length = m7 at e7
      subst e7
      have HF := Aside0.mk (Ls.put0 HL.out hg hb ho)
      have hne : some b3 ≠ v0.ownBlock := fun he => by have := (Kd.S_R HL.out.k0).1 b3 he.symm; have := HL.out.bN; omega
      have HR := Aside0.mk (blk_grown HL.out.row hg hne)
      clear ho hb hg hat hne
      refine hK.out _ _ ((blk_cell HR.out 0).trans rfl) (fun hHeld => ?_)
      clear hK K
      refine norm_ (a' := ?_) ?_ ?_
      rotate_left
      ·show Act.put _ (some 45) _ = _
       simp only [Act.put, List.setIfInBounds_toArray, List.set_cons_zero, List.set_cons_succ, i64_w, i32_w]
       rfl
      refine pure_ (i := 6) (N := some 46) (v := ?_) (a' := ?_) #[true, true, true, true, true, true, true, false] rfl rfl (any_of HT_.out (by kernel_rfl)) (fun _ _ _ h => h) (Or.inl ⟨by rfl, ?_⟩) ?_ ?_
      rotate_left
      ·intro w'
       go_simp
       with_reducible rfl
      rotate_left
      ·simp only [Act.put, List.setIfInBounds_toArray, List.set_cons_zero, List.set_cons_succ, i64_w, i32_w]
       rfl
      refine last_ (i := 7) (N := none) #[true, true, true, true, true, true, true, true] rfl rfl (one_of HT_.out (by kernel_rfl)) (by decide) (fun K hK => ?_)
      have hs0 : wq.cell? ⟨b3, 0, none⟩ = some v0 := (blk_cell HR.out 0).trans rfl
      have hf0 : wq.frozen? ⟨b3, 0, none⟩ = false := blk_frozen HR.out 0
      refine skip_ (w1 := ?_) (by rfl) rfl ?_ ?_
      rotate_left
      ·go_simp
       rfl
      refine hK.out _ _ ?_
      clear hK K
      refine done_ (done_of HT_.out (by kernel_rfl)) ?_
      go_wp2
      go_roundg (L.length - (kk + 1))
      case measure => omega
      case rel => exact ⟨kk + 1, _, by omega, by omega, by go_num, ⟨by rw [← hsn.out]; exact HF.out⟩⟩
     ·have hltz : ¬ (kk : Int) < (L.length : Int) := by omega
      obtain rfl : L.length = kk := by omega
      rw [List.take_length] at HL
      replace HL := Aside0.mk HL.out.over
      obtain ⟨N1, hN1⟩ : ∃ N1, N1 = wr.heap.size := ⟨_, rfl⟩
      rw [← hN1] at HL
      clear hN1
      have PIN := Aside0.mk (placed_in HP.out)
      have hFL := PIN.out.1
      obtain ⟨f0, f1, f2, f3, f4⟩ := HL.out.rb.held
      have hb3 := C_bound H3.out.1
      go_wp2_with fail
      go_loopg [51] Fo.length (fun gg v51 wr => ∃ (kk : Nat), kk ≤ Fo.length ∧ Fo.length - kk ≤ gg ∧ v51 = .int .i64 kk ∧ Aside0 (Ls w N1 b3 g3 (.slice A0 L.length c0) (.slice A1 F.length c1) (.slice A2 La.length c2) (.slice A3 Fo.length c3) v0 (.slice A2' La.length c2') (.slice A1' F.length c1') (.slice (some ⟨g3, 0, none⟩) L.length c3') b La F (fun k => k < N1 ∧ k ≠ g3) (fun k => k = g3 ∨ N1 ≤ k) L (turnK Fo L.length kk) wr))
      case atStart => exact ⟨0, Nat.zero_le _, by omega, rfl, HL⟩
      case round =>
       clear HL f0 f1 f2 f3 f4
       obtain ⟨kk, hkk2, hg2, rfl, HL⟩ := hrel
       by_cases hlt2 : kk < Fo.length
       ·have hltz2 : (kk : Int) < (Fo.length : Int) := by omega
        obtain ⟨ad, A5, c5, rfl, hcell', h5, h6⟩ := list_at H3.out.1 kk Fo[kk] (List.getElem?_eq_getElem hlt2)
        have hcell := pw_cell_below HL.out.rb.below hcell'
        have hget : Aside0 (Fo.getD kk [] = Fo[kk]) := ⟨by rw [List.getD_eq_getElem?_getD, List.getElem?_eq_getElem hlt2]; rfl⟩
        have hmem : Aside0 (∀ q ∈ Fo[kk], 0 ≤ q ∧ q < (L.length : Int)) := ⟨PIN.out.2.2.2 _ (List.getElem_mem hlt2)⟩
        have htt : Aside0 (risesB L.length (-1) Fo[kk] = true) := ⟨(rev_rows hOk.out).2 _ (List.getElem_mem hlt2)⟩
        have hKL : Aside0 (∀ y, ((turnK Fo L.length kk).getD y []).length ≤ kk) := ⟨turnK_len Fo L.length (rev_rows hOk.out).2 kk⟩
        have hkL : Aside0 (kk < L.length) := ⟨by omega⟩
        generalize Fo[kk] = x at hcell hcell' h5 h6 hget hmem htt
        have H6 := Aside0.mk (And.intro h5 h6)
        have hbx := C_bound h6
        clear h5 h6 hcell'
        go_wp2_with fail
        go_loopg [58] x.length (fun gg v58 wr => ∃ (j : Nat), j ≤ x.length ∧ x.length - j ≤ gg ∧ v58 = .int .i64 j ∧ Aside0 (Ls w N1 b3 g3 (.slice A0 L.length c0) (.slice A1 F.length c1) (.slice A2 La.length c2) (.slice (some ad) Fo.length c3) v0 (.slice A2' La.length c2') (.slice A1' F.length c1') (.slice (some ⟨g3, 0, none⟩) L.length c3') b La F (fun k => k < N1 ∧ k ≠ g3) (fun k => k = g3 ∨ N1 ≤ k) L (turnRow kk (turnK Fo L.length kk) (x.take j)) wr))
        case atStart => exact ⟨0, Nat.zero_le _, by omega, rfl, HL⟩
        case round =>
         clear HL hcell
         obtain ⟨j, hj, hgj, rfl, HL⟩ := hrel
         by_cases hlj : j < x.length
         ·have hljz : (j : Int) < (x.length : Int) := by omega
          obtain ⟨ad5, rfl, hcell'⟩ := int_at H6.out.2 j x[j] (List.getElem?_eq_getElem hlj)
          have hcell := pw_cell_below HL.out.rb.below hcell'
          have hxj : Aside0 (x[j]? = some x[j]) := ⟨List.getElem?_eq_getElem hlj⟩
          have hyy := hmem.out x[j] (List.getElem_mem hlj)
          generalize x[j] = y at hcell hcell' hxj hyy
          obtain ⟨y, rfl⟩ := Int.eq_ofNat_of_zero_le hyy.1
          have hqn : y < L.length := by omega
          have hq1 : (0 : Int) ≤ (y : Int) := by omega
          have hq2 : (y : Int) < (L.length : Int) := by omega
          have hTs : Aside0 (turnRow kk (turnK Fo L.length kk) (x.take (j + 1)) = (turnRow kk (turnK Fo L.length kk) (x.take j)).set y ((turnRow kk (turnK Fo L.length kk) (x.take j)).getD y [] ++ [(kk : Int)])) := ⟨turnRow_snoc _ _ _ _ _ hxj.out⟩
          have HLen : Aside0 (((turnRow kk (turnK Fo L.length kk) (x.take j)).getD y []).length ≤ 5864062014634) := ⟨by
           have h1 := turnRow_part kk L.length (turnK Fo L.length kk) x j (turnK_length _ _ _) htt.out y
           have h2 := hKL.out y
           have h3 := hkL.out
           omega⟩
          generalize turnRow kk (turnK Fo L.length kk) (x.take j) = T at HL hTs HLen
          clear hyy hcell'
          go_upto_region 15 with fail
          clear hcell
          replace HL := Aside0.mk (HL.out.step (below_drew (Below.refl _ wr)))
          obtain ⟨oki, cc, _, hM, hcc, hoki, hH⟩ := Kd.S_lend HL.out.k3 [] (y : Int) hq1 hq2
          obtain ⟨u, rfl, hu⟩ := hM
          have HC := Aside0.mk (And.intro (show (wr.drew).cell? ⟨g3, y, none⟩ = some u from (by have := hcc 0 u rfl; rwa [show ((y : Int)).toNat * kL.sz + 0 = y from Nat.mul_one _] at this)) trivial)
          have HU : Aside0 (Kd.R kI 3 wr.drew w.heap.size oki u (T.getD y [])) := ⟨hu⟩
          have HO := Aside0.mk hoki
          have HH := Aside0.mk hH
          clear hu hcc hoki hH
          refine start_ (n := 13) (S := fun w' => w'.cell? ⟨b3, 3, none⟩ = some (.slice (some ⟨g3, 0, none⟩) L.length c3') ∧ w'.cell? ⟨g3, y, none⟩ = some u) (ds := [12]) #[false, false, false, false, false, false, false, false, false, false, false, false, false] (by kernel_rfl) rfl rfl ⟨(blk_cell HL.out.row 3).trans rfl, HC.out.1⟩ (fun hHeld => ?_)
          refine with_tabW rev.tab15 rev.bits15 (fun HT_ HW_ => ?_)
          generalize wr.drew = wn at HL HC HU HH hHeld ⊢
          refine pure_ (i := 0) (N := some 62) (v := ?_) (a' := ?_) #[true, false, false, false, false, false, false, false, false, false, false, false, false] rfl rfl (any_of HT_.out (by kernel_rfl)) (fun _ _ _ h => h) (Or.inl ⟨by rfl, ?_⟩) ?_ ?_
          rotate_left
          ·intro w'
           go_simp
           with_reducible rfl
          rotate_left
          ·simp only [Act.put, List.setIfInBounds_toArray, List.set_cons_zero, List.set_cons_succ, i64_w, i32_w]
           rfl
          refine pure_ (i := 2) (N := some 64) (v := ?_) (a' := ?_) #[true, false, true, false, false, false, false, false, false, false, false, false, false] rfl rfl (any_of HT_.out (by kernel_rfl)) (fun _ _ _ h => h) (Or.inl ⟨by rfl, ?_⟩) ?_ ?_
          rotate_left
          ·intro w'
           go_simp
           with_reducible rfl
          rotate_left
          ·simp only [Act.put, List.setIfInBounds_toArray, List.set_cons_zero, List.set_cons_succ, i64_w, i32_w]
           rfl
          refine pure_ (i := 3) (N := some 65) (v := ?_) (a' := ?_) #[true, false, true, true, false, false, false, false, false, false, false, false, false] rfl rfl (any_of HT_.out (by kernel_rfl)) (fun _ _ _ h => h) (Or.inl ⟨by rfl, ?_⟩) ?_ ?_
          rotate_left
          ·intro w'
           go_simp
           with_reducible rfl
          rotate_left
          ·simp only [Act.put, List.setIfInBounds_toArray, List.set_cons_zero, List.set_cons_succ, i64_w, i32_w]
           rfl
          refine pure_ (i := 5) (N := some 67) (v := ?_) (a' := ?_) #[true, false, true, true, false, true, false, false, false, false, false, false, false] rfl rfl (any_of HT_.out (by kernel_rfl)) (fun _ _ _ h => h) (Or.inl ⟨by rfl, ?_⟩) ?_ ?_
          rotate_left
          ·intro w'
           go_simp
           with_reducible rfl
          rotate_left
          ·simp only [Act.put, List.setIfInBounds_toArray, List.set_cons_zero, List.set_cons_succ, i64_w, i32_w]
           rfl
          refine pure_ (i := 8) (N := some 70) (v := ?_) (a' := ?_) #[true, false, true, true, false, true, false, false, true, false, false, false, false] rfl rfl (any_of HT_.out (by kernel_rfl)) (fun _ _ _ h => h) (Or.inl ⟨by rfl, ?_⟩) ?_ ?_
          rotate_left
          ·intro w'
           go_simp
           with_reducible rfl
          rotate_left
          ·simp only [Act.put, List.setIfInBounds_toArray, List.set_cons_zero, List.set_cons_succ, i64_w, i32_w]
           rfl
          refine take_ (i := 1) (N := some 63) (v := ?_) (a' := ?_) #[true, true, true, true, false, true, false, false, true, false, false, false, false] rfl rfl (take_ofW HT_.out HW_.out (by kernel_rfl)) (fun _ _ _ h => h) (Or.inl ⟨by rfl, ?_⟩) hHeld ?_ ?_
          rotate_left
          ·rintro w' ⟨s0, s1⟩
           go_simp
           with_reducible rfl
          rotate_left
          ·simp only [Act.put, List.setIfInBounds_toArray, List.set_cons_zero, List.set_cons_succ, i64_w, i32_w]
           rfl
          refine take_ (i := 4) (N := some 66) (v := ?_) (a' := ?_) #[true, true, true, true, true, true, false, false, true, false, false, false, false] rfl rfl (take_ofW HT_.out HW_.out (by kernel_rfl)) (fun _ _ _ h => h) (Or.inl ⟨by rfl, ?_⟩) hHeld ?_ ?_
          rotate_left
          ·rintro w' ⟨s0, s1⟩
           go_simp
           with_reducible rfl
          rotate_left
          ·simp only [Act.put, List.setIfInBounds_toArray, List.set_cons_zero, List.set_cons_succ, i64_w, i32_w]
           rfl
          refine pure_ (i := 6) (N := some 68) (v := ?_) (a' := ?_) #[true, true, true, true, true, true, true, false, true, false, false, false, false] rfl rfl (any_of HT_.out (by kernel_rfl)) (fun _ _ _ h => h) (Or.inl ⟨by rfl, ?_⟩) ?_ ?_
          rotate_left
          ·intro w'
           go_simp
           with_reducible rfl
          rotate_left
          ·simp only [Act.put, List.setIfInBounds_toArray, List.set_cons_zero, List.set_cons_succ, i64_w, i32_w]
           rfl
          refine take_ (i := 7) (N := some 69) (v := ?_) (a' := ?_) #[true, true, true, true, true, true, true, true, true, false, false, false, false] rfl rfl (take_ofW HT_.out HW_.out (by kernel_rfl)) (fun _ _ _ h => h) (Or.inl ⟨by rfl, ?_⟩) hHeld ?_ ?_
          rotate_left
          ·rintro w' ⟨s0, s1⟩
           go_simp
           with_reducible rfl
          rotate_left
          ·simp only [Act.put, List.setIfInBounds_toArray, List.set_cons_zero, List.set_cons_succ, i64_w, i32_w]
           rfl
          refine one_ (i := 9) (N := some 71) #[true, true, true, true, true, true, true, true, true, true, false, false, false] rfl rfl (one_of HT_.out (by kernel_rfl)) (by decide) (fun K hK => ?_)
          refine value_ (w1 := ?_) (v := ?_) (by rfl) rfl ?_ ?_
          rotate_left 2
          ·go_simp
           repeat' (first | rfl | constructor)
          refine hK.out _ _ ⟨(blk_cell (blk_alloc HL.out.row _) 3).trans rfl, cell_alloc HC.out.1 _⟩ (fun hHeld => ?_)
          clear hK K
          refine norm_ (a' := ?_) ?_ ?_
          rotate_left
          ·show Act.put _ (some 71) _ = _
           simp only [Act.put, List.setIfInBounds_toArray, List.set_cons_zero, List.set_cons_succ, i64_w, i32_w]
           rfl
          refine one_ (i := 10) (N := some 72) #[true, true, true, true, true, true, true, true, true, true, true, false, false] rfl rfl (one_of HT_.out (by kernel_rfl)) (by decide) (fun K hK => ?_)
          refine Kd.R_append_step kI (w0 := w) w.heap.size (by rfl) (.tmp 69) (.tmp 71) 25 3 (.int .i64 0) 8 rfl Tryd.underlying25 info3 rfl (by decide) (by omega) u (T.getD y []) (kk : Int) [.int .i64 kk] (fun k => oki k ∨ (k = g3 ∨ N1 ≤ k) ∧ wn.heap.size ≤ k) (fun _ => False) rfl rfl ?aP (fun _ hk => hk.elim) ?aF ?aO ?aB ?aS ?aL ?_
          case aP => exact rfl
          case aF => exact fun k hk => .inr ⟨.inr (by have := HL.out.nW; omega), hk⟩
          case aO => exact Kd.R_mono HU.out (fun k hk => .inl hk)
          case aB => exact HL.out.rb.below
          case aS => exact HL.out.rb.below.size
          case aL => have := HLen.out; omega
          intro u' wq ho hb hg hat
          obtain ⟨A7, c7, e7⟩ := Kd.R_slice ho
          generalize (T.getD y [] ++ [(kk : Int)]).length = m7 at e7
          subst e7
          have HF := Aside0.mk (Ls.put3 HL.out hqn HO.out HU.out HH.out hg hb ho)
          have HR := Aside0.mk (put3_at HL.out hqn HO.out HU.out HH.out hg)
          clear ho hb hg hat
          refine hK.out _ _ ⟨HR.out.1, HR.out.2.1⟩ (fun hHeld => ?_)
          clear hK K
          refine norm_ (a' := ?_) ?_ ?_
          rotate_left
          ·show Act.put _ (some 72) _ = _
           simp only [Act.put, List.setIfInBounds_toArray, List.set_cons_zero, List.set_cons_succ, i64_w, i32_w]
           rfl
          refine pure_ (i := 11) (N := some 73) (v := ?_) (a' := ?_) #[true, true, true, true, true, true, true, true, true, true, true, true, false] rfl rfl (any_of HT_.out (by kernel_rfl)) (fun _ _ _ h => h) (Or.inl ⟨by rfl, ?_⟩) ?_ ?_
          rotate_left
          ·intro w'
           go_simp
           with_reducible rfl
          rotate_left
          ·simp only [Act.put, List.setIfInBounds_toArray, List.set_cons_zero, List.set_cons_succ, i64_w, i32_w]
           rfl
          refine last_ (i := 12) (N := none) #[true, true, true, true, true, true, true, true, true, true, true, true, true] rfl rfl (one_of HT_.out (by kernel_rfl)) (by decide) (fun K hK => ?_)
          have hs0 := HR.out.2.1
          have hf0 := HR.out.2.2
          refine skip_ (w1 := ?_) (by rfl) rfl ?_ ?_
          rotate_left
          ·go_simp
           rfl
          refine hK.out _ _ ?_
          clear hK K
          refine done_ (done_of HT_.out (by kernel_rfl)) ?_
          go_wp2
          go_roundg (x.length - (j + 1))
          case measure => omega
          case rel => exact ⟨j + 1, by omega, by omega, by go_num, ⟨by rw [hTs.out]; exact HF.out⟩⟩
         ·have hljz : ¬ (j : Int) < (x.length : Int) := by omega
          obtain rfl : x.length = j := by omega
          rw [List.take_length] at HL
          go_wp2
          go_roundg (Fo.length - (kk + 1))
          case measure => omega
          case rel => exact ⟨kk + 1, by omega, by omega, by go_num, ⟨by rw [show turnK Fo L.length (kk + 1) = turnRow kk (turnK Fo L.length kk) x from by rw [← hget.out]; rfl]; exact HL.out⟩⟩
       ·have hltz2 : ¬ (kk : Int) < (Fo.length : Int) := by omega
        obtain rfl : Fo.length = kk := by omega
        obtain ⟨A9, c9, rfl⟩ := Kd.S_slice HL.out.k0
        have z0 : wr.cell? ⟨w.heap.size + 1, 0, none⟩ = some (.slice none 0 0) := (blk_cell HL.out.rb.res 0).trans rfl
        have z1 : wr.cell? ⟨w.heap.size + 1, 1, none⟩ = some (.slice none 0 0) := (blk_cell HL.out.rb.res 1).trans rfl
        have z2 : wr.cell? ⟨w.heap.size + 1, 2, none⟩ = some (.slice none 0 0) := (blk_cell HL.out.rb.res 2).trans rfl
        have z3 : wr.cell? ⟨w.heap.size + 1, 3, none⟩ = some (.slice none 0 0) := (blk_cell HL.out.rb.res 3).trans rfl
        have z4 : wr.cell? ⟨w.heap.size + 1, 4, none⟩ = some (.bool false) := (blk_cell HL.out.rb.res 4).trans rfl
        have y0 := blk_frozen HL.out.rb.res 0
        have y1 := blk_frozen HL.out.rb.res 1
        have y2 := blk_frozen HL.out.rb.res 2
        have y3 := blk_frozen HL.out.rb.res 3
        have y4 := blk_frozen HL.out.rb.res 4
        have x0 := (blk_cell HL.out.row 0).trans rfl
        have x1 := (blk_cell HL.out.row 1).trans rfl
        have x2 := (blk_cell HL.out.row 2).trans rfl
        have x3 := (blk_cell HL.out.row 3).trans rfl
        have x4 := (blk_cell HL.out.row 4).trans rfl
        go_wp2_with fail
        refine bodyPost_ret (results_cell_row rfl _ _ (w.heap.size + 1) 42 #[.slice A9 L.length c9, .slice A2' La.length c2', .slice A1' F.length c1', .slice (some ⟨g3, 0, none⟩) L.length c3', .bool b] (0, 0) _ rfl (blk_put (blk_put (blk_put (blk_put (blk_put HL.out.rb.res 0 _ rfl) 1 _ rfl) 2 _ rfl) 3 _ rfl) 4 _ rfl) Tryd.underlying42 rfl (by kernel_rfl)) rfl ?_
        refine ⟨_, _, _, _, by rw [hOk.out]; rfl, ?_, ?_, ?_, ?_, ?_⟩
        ·rw [hOk.out]; exact R_set5 (Kd.S_R HL.out.k0) HL.out.rb.res types42 _ _ _ _ _
        ·rw [hOk.out]; exact R_set5 HL.out.k1 HL.out.rb.res types42i _ _ _ _ _
        ·rw [hOk.out]; exact R_set5 HL.out.k2 HL.out.rb.res types42i _ _ _ _ _
        ·rw [hOk.out, show turnK Fo L.length L.length = turnK Fo L.length Fo.length from by rw [hFL]]; exact R_set5 (Kd.S_R HL.out.k3) HL.out.rb.res types42 _ _ _ _ _
        ·exact (((((HL.out.rb.below.setCell (Nat.le_succ _) _).setCell (Nat.le_succ _) _).setCell (Nat.le_succ _) _).setCell (Nat.le_succ _) _).setCell (Nat.le_succ _) _)
end Go.Proofs.YtfonajakaimnoaaDoor.C11

namespace Go.Proofs.YtfonajakaimnoaaDoor.Lib
open Go.RowKit Go.Proofs.YtfonajakaimnoaaDoorW.PrintWords Go.Proofs.YtfonajakaimnoaaDoorW.PrintLast Go.Proofs.YtfonajakaimnoaaDoorW.PrintMore
attribute [local go_sem] max2_int min2_int max_two min_two max_three min_three max_four min_four   -- for this text's walks alone
set_option linter.unusedVariables false
set_option linter.unusedSimpArgs false

/-! ### caesuraref11_copyOf: function 87 -/
def caesuraref11_copyOf.l0 : Nat → List (List Int) → List (List Int) → Int → Option ((List (List Int)))
 | 0, _, _, _ => none
 | k + 1, x0, x3, x4 => if x4 < (x0.length : Int) then (if 0 ≤ x4 then (if ([] : List Int).length + (rd_L1 x0 x4).length < 17592186044416 then (if x3.length < 5864062014805 then (caesuraref11_copyOf.l0 k x0 (x3 ++ [(([] : List Int) ++ (rd_L1 x0 x4))]) (wrap64 (x4 + 1))) else (none)) else (none)) else (none)) else (some x3)
def caesuraref11_copyOf.f (k : Nat) (l0 : List (List Int)) : Option ((List (List Int))) := caesuraref11_copyOf.l0 k l0 ([] : List (List Int)) 0
theorem caesuraref11_copyOf.mono_l : ∀ k, (∀ y0 y1 y2, LeO (caesuraref11_copyOf.l0 k y0 y1 y2) (caesuraref11_copyOf.l0 (k + 1) y0 y1 y2))
 | 0 => fun _ _ _ r h => by simp [caesuraref11_copyOf.l0] at h
 | k + 1 => by
  have ih0 := caesuraref11_copyOf.mono_l k
  ·intro y0 y1 y2
   unfold caesuraref11_copyOf.l0
   repeat' first
   | (with_reducible exact ih0 _ _ _)
   | (with_reducible exact LeO.refl _)
   | (with_reducible exact LeO.none _)
   | (with_reducible refine LeO.ite ?_ ?_)
   | (with_reducible refine LeO.bind ?_ (fun _ => ?_))
   | exact ih0 _ _ _
   | exact LeO.none _
   | refine LeO.ite ?_ ?_
   | refine LeO.bind ?_ (fun _ => ?_)
theorem caesuraref11_copyOf.mono : ∀ a0 k, LeO (caesuraref11_copyOf.f k a0) (caesuraref11_copyOf.f (k + 1) a0) := by
 intro a0 k
 have ih0 := caesuraref11_copyOf.mono_l k
 unfold caesuraref11_copyOf.f
 repeat' first
   | (with_reducible exact ih0 _ _ _)
   | (with_reducible exact LeO.refl _)
   | (with_reducible exact LeO.none _)
   | (with_reducible refine LeO.ite ?_ ?_)
   | (with_reducible refine LeO.bind ?_ (fun _ => ?_))
   | exact ih0 _ _ _
   | exact LeO.none _
   | refine LeO.ite ?_ ?_
   | refine LeO.bind ?_ (fun _ => ?_)
set_option maxHeartbeats 8000000 in
set_option maxRecDepth 100000 in
theorem caesuraref11_copyOf.calls (k : Nat) (A0 : Option Addr) (c0 : Nat) (l0 : List (List Int)) (r : List (List Int)) (w : World) (hr0 : Kd.C (Kd.slice 3 (Kd.int .i64)) w A0 l0.length l0) (hc0 : l0.length ≤ c0) (h : caesuraref11_copyOf.f k l0 = some r) :
  Calls Tryd.prog 87 #[.slice A0 l0.length c0] w fun e w' => ∃ v0_ : Value, e = .returned (v0_) ∧ Kd.S (Kd.slice 3 (Kd.int .i64)) 25 w' w.heap.size (fun _ => True) v0_ r ∧ Below w.heap.size w w' := by
 have HR0 := Aside0.mk hr0
 have HC0 := Aside0.mk hc0
 clear hr0 hc0
 have HB := Aside0.mk (Below.refl w.heap.size w)
 have H : (caesuraref11_copyOf.l0 k l0 ([] : List (List Int)) 0) = some r := h
 clear h
 have H' := Aside0.mk H
 clear H
 go_enter Tryd.func87, Tryd.ntmps87
 go_wp2
 go_loopg [3, 4] k (fun kq v3 v4 w' => ∃ (x3_1 : List (List Int)) (x4_1 : Int), v4 = .int .i64 x4_1 ∧ Aside0 (caesuraref11_copyOf.l0 kq l0 x3_1 x4_1 = some r) ∧ Aside0 (kq ≤ k) ∧ Aside0 (Kd.S (Kd.slice 3 (Kd.int .i64)) 25 w' w.heap.size (fun _ => True) v3 x3_1) ∧ Aside0 (Below w.heap.size w w'))
 case atStart => exact ⟨(([] : List (List Int))), (0), (by first | rfl | (simp; done) | (simp [*]; done)), H', ⟨Nat.le_refl _⟩, ⟨by first | exact Kd.S_nil _ _ _ _ _ | exact Kd.N_nil _ _ _ _ _ | exact Kd.V_nil _ _ _ _ _ | exact Kd.Q_nil _ _ _ _ _ | exact Kd.R_nil _ _ _ _ _⟩, ⟨by repeat (first | (with_reducible first | exact HB.out | apply below_alloc | apply pw_below_drewN | apply below_drew1) | exact HB.out)⟩⟩
 case round =>
  clear H'
  obtain ⟨x3_1, x4_1, rfl, HA, HK1, HO_3, HB⟩ := hrel
  cases gk with
  | zero => exact absurd HA.out (by simp [caesuraref11_copyOf.l0])
  | succ k1 =>
   have H := HA.out
   clear HA
   simp only [caesuraref11_copyOf.l0] at H
   by_cases c2 : x4_1 < (l0.length : Int)
   ·rw [if_pos c2] at H
    have c2b0 : decide (x4_1 < (l0.length : Int)) = true := decide_eq_true c2
    clear c2
    by_cases c3 : 0 ≤ x4_1
    ·rw [if_pos c3] at H
     have c3b0 : decide (0 ≤ x4_1) = true := decide_eq_true c3
     clear c3
     by_cases c4 : ([] : List Int).length + (rd_L1 l0 x4_1).length < 17592186044416
     ·rw [if_pos c4] at H
      have LMc4 := Aside0.mk c4
      clear c4
      obtain ⟨y305, hy305⟩ : ∃ y_ : List Int, y_ = (([] : List Int) ++ (rd_L1 l0 x4_1)) := ⟨_, rfl⟩
      replace H : (if x3_1.length < 5864062014805 then (caesuraref11_copyOf.l0 k1 l0 (x3_1 ++ [y305]) (wrap64 (x4_1 + 1))) else (none)) = some r := by first | (rw [hy305]; with_reducible exact H) | (have H2_ := (Option.bind_some _ _).symm.trans H; rw [hy305]; with_reducible exact H2_) | (have H2_ := (Option.bind_some _ _).symm.trans H; with_reducible exact H2_) | with_reducible exact H | (rw [hy305]; exact H) | exact H
      have Ny305 := Aside0.mk hy305
      clear hy305
      by_cases c5 : x3_1.length < 5864062014805
      ·rw [if_pos c5] at H
       have LMc5 := Aside0.mk c5
       clear c5
       obtain ⟨y308, hy308⟩ : ∃ y_ : List (List Int), y_ = (x3_1 ++ [y305]) := ⟨_, rfl⟩
       replace H : (caesuraref11_copyOf.l0 k1 l0 y308 (wrap64 (x4_1 + 1))) = some r := by first | (rw [hy308]; with_reducible exact H) | (have H2_ := (Option.bind_some _ _).symm.trans H; rw [hy308]; with_reducible exact H2_) | (have H2_ := (Option.bind_some _ _).symm.trans H; with_reducible exact H2_) | with_reducible exact H | (rw [hy308]; exact H) | exact H
       have Ny308 := Aside0.mk hy308
       clear hy308
       have H' := Aside0.mk H
       clear H
       have p304 : 0 ≤ (x4_1 : Int) := of_decide_eq_true (by first | (with_reducible assumption) | assumption)
       have q304 : x4_1 < (l0.length : Int) := of_decide_eq_true (by first | (with_reducible assumption) | assumption)
       obtain ⟨ad304, A304_0, c304_0, e304, hx304_0, hl304_0, hi304_0⟩ := at_L1 HR0.out x4_1 p304 q304
       cases e304
       replace hx304_0 := (HB.out.cell (World.block_lt_of_cell? w _ hx304_0)).trans hx304_0
       have HR304_0 := Aside0.mk hi304_0
       have HC304_0 := Aside0.mk hl304_0
       clear hi304_0 hl304_0
       replace p304 := eq_true p304
       replace q304 := eq_true q304
       go_wp2_with (first | ((with_reducible refine gate_builtin (b := .append) (xs := #[.tmp 12, .tmp 16]) rfl ?_); at_builtin; refine Kd.R_append_rows (Kd.int .i64) (w0 := w) w.heap.size rfl (.tmp 12) (.tmp 16) 25 3 (.int .i64 0) 8 rfl Tryd.underlying25 info3 rfl (by decide) (by omega) (.slice none 0 0) ([] : List Int) (rd_L1 l0 x4_1) _ _ _ (fun _ => True) (fun _ => False) rfl rfl ?aO ?aR (fun _ _ h => h) (fun _ h => h.elim) ?aF ?aB ?aS ?aL ?_; (case aR => repeat (first | exact (Kd.C_below HR304_0.out HB.out) | (with_reducible refine Kd.C_alloc ?_ _) | (with_reducible refine Kd.C_drewN ?_ _) | (with_reducible refine Kd.C_drew ?_))); (case aB => exact (by repeat (first | (with_reducible first | exact HB.out | apply below_alloc | apply pw_below_drewN | apply below_drew1) | exact HB.out))); (case aF => exact (fun _ _ => trivial)); (case aO => exact ((Kd.R_nil _ _ _ _ (fun _ => True)))); (case aS => exact (below_size (by repeat (first | (with_reducible first | exact HB.out | apply below_alloc | apply pw_below_drewN | apply below_drew1) | exact HB.out)))); (case aL => have := LMc4.out; omega); intro v306 w6 ho hb hg hat; rw [← Ny305.out] at ho; have n0_ := Aside0.mk (Kd.S_after (Kd.S_apart_nil (by (with_reducible repeat (first | apply Kd.S_alloc | apply Kd.S_drewN | apply Kd.S_drew)); exact HO_3.out)) hg hat); have n1_ := Aside0.mk (hb); have n2_ := Aside0.mk (ho); clear HO_3; clear HB; have HO_3 := n0_; have HB := n1_; have HO307 := n2_; clear n0_ n1_ n2_; clear ho hb hg hat; obtain ⟨Ao8, co8, eo8⟩ := Kd.R_slice HO307.out; subst eo8) | ((with_reducible refine gate_builtin (b := .append) (xs := #[.tmp 18, .tmp 20]) rfl ?_); at_builtin; refine Kd.S_append (Kd.slice 3 (Kd.int .i64)) (w0 := w) w.heap.size rfl (.tmp 18) (.tmp 20) 22 25 (.slice none 0 0) 24 rfl Tryd.underlying22 info25 rfl (by decide) (by omega) u3 x3_1 y305 [.slice Ao8 y305.length co8] (fun _ => True) (fun k_ => some k_ = (.slice Ao8 y305.length co8 : Value).ownBlock) rfl rfl ?aP (fun k_ hk_ => ((Kd.R_mono (ok' := fun k_ => ((fun _ => True)) k_ ∧ some k_ ≠ (u3 : Value).ownBlock) (Kd.R_apart' (HO307.out) (Kd.S_typed HO_3.out) (by decide)) (fun k_ hk => ⟨trivial, hk.2⟩))).1 k_ hk_.symm) ?aF ?aO ?aB ?aS ?aL ?_; (case aP => exact Kd.M_row (Kd.R_mono (Kd.R_tight rfl (Kd.R_mono (ok' := fun k_ => ((fun _ => True)) k_ ∧ some k_ ≠ (u3 : Value).ownBlock) (Kd.R_apart' (HO307.out) (Kd.S_typed HO_3.out) (by decide)) (fun k_ hk => ⟨trivial, hk.2⟩))) (fun _ h_ => h_))); (case aB => exact (by repeat (first | (with_reducible first | exact HB.out | apply below_alloc | apply pw_below_drewN | apply below_drew1) | exact HB.out))); (case aF => exact (fun _ _ => trivial)); (case aO => exact (by (with_reducible repeat (first | apply Kd.S_alloc | apply Kd.S_drewN | apply Kd.S_drew)); exact Kd.S_mono HO_3.out (fun k_ hk => ⟨trivial, fun e_ => hk.2 e_⟩))); (case aS => exact (below_size (by repeat (first | (with_reducible first | exact HB.out | apply below_alloc | apply pw_below_drewN | apply below_drew1) | exact HB.out)))); (case aL => have := LMc5.out; omega); intro v309 w7 ho hb hg hat; rw [← Ny308.out] at ho; have n0_ := Aside0.mk (hb); have n1_ := Aside0.mk (ho); clear HB; clear HO_3; clear HO307; have HB := n0_; have HO310 := n1_; clear n0_ n1_; clear ho hb hg hat))
       go_roundg k1
       case measure => have := HK1.out; omega
       case rel => exact ⟨(y308), (wrap64 (x4_1 + 1)), (by first | rfl | (simp; done) | (simp [*]; done)), H', ⟨by have := HK1.out; omega⟩, ⟨by (with_reducible repeat (first | apply Kd.S_alloc | apply Kd.S_drewN | apply Kd.S_drew)); exact HO310.out⟩, ⟨by repeat (first | (with_reducible first | exact HB.out | apply below_alloc | apply pw_below_drewN | apply below_drew1) | exact HB.out)⟩⟩
      ·rw [if_neg c5] at H
       exact absurd H (by simp)
     ·rw [if_neg c4] at H
      exact absurd H (by simp)
    ·rw [if_neg c3] at H
     exact absurd H (by simp)
   ·rw [if_neg c2] at H
    have c2b0 : decide (x4_1 < (l0.length : Int)) = false := decide_eq_false c2
    clear c2
    obtain rfl := Option.some.inj H
    go_wp2
    go_ret
    exact ⟨_, by first | rfl | (simp [errW_none, errW_some] <;> rfl) | (simp [*, errW_none, errW_some] <;> rfl), by (with_reducible repeat (first | apply Kd.S_alloc | apply Kd.S_drewN | apply Kd.S_drew)); exact HO_3.out, by repeat (first | (with_reducible first | exact HB.out | apply below_alloc | apply pw_below_drewN | apply below_drew1) | exact HB.out)⟩

end Go.Proofs.YtfonajakaimnoaaDoor.Lib

/- caesuraref11.Reverse: what stands while the answer is built. -/
namespace Go.Proofs.YtfonajakaimnoaaDoor.C11
open Go.RowKit Go.Proofs.YtfonajakaimnoaaDoorW.PrintWords Go.Proofs.YtfonajakaimnoaaDoorW.PrintLast Go.Proofs.YtfonajakaimnoaaDoorW.PrintMore Go.Proofs.YtfonajakaimnoaaDoor.Lib Lent Go.Proofs.YtfonajakaimnoaaDoor.Fn
set_option linter.unusedVariables false
set_option linter.unusedSimpArgs false

theorem row_at (L : LL) {i : Nat} (h : i < L.length) : rd_L1 L (i : Int) = L[i] := by
 unfold rd_L1
 rw [show ((i : Int)).toNat = i from rfl, List.getD_eq_getElem?_getD, List.getElem?_eq_getElem h]
 rfl
theorem copyOf_ev (L : LL) (hL : L.length ≤ 5864062014634) (hr : ∀ x ∈ L, x.length ≤ 17592186043904) : Ev (fun k => caesuraref11_copyOf.f k L) L := by
 have key : ∀ (d i : Nat), i ≤ L.length → L.length - i = d → Ev (fun k => caesuraref11_copyOf.l0 k L (L.take i) i) L := by
  intro d
  induction d with
  | zero =>
   intro i hi hd
   obtain rfl : i = L.length := by omega
   have hn : ¬ (L.length : Int) < (L.length : Int) := by omega
   refine Ev.step (f := fun _ => some L) (fun k => ?_) (Ev.now _)
   conv => lhs; unfold caesuraref11_copyOf.l0
   rw [if_neg hn, List.take_length]
  | succ d ih =>
   intro i hi hd
   have hil : i < L.length := by omega
   have hiz : (i : Int) < (L.length : Int) := by omega
   have hi0 : (0 : Int) ≤ (i : Int) := by omega
   have h1 : ([] : List Int).length + L[i].length < 17592186044416 := by have := hr _ (List.getElem_mem hil); simp; omega
   have h2 : (L.take i).length < 5864062014805 := by rw [List.length_take]; omega
   have hnext := ih (i + 1) (by omega) (by omega)
   rw [List.take_add_one, List.getElem?_eq_getElem hil] at hnext
   have hw : wrap64 ((i : Int) + 1) = ((i + 1 : Nat) : Int) := by rw [wrap_succ (n := L.length) (by omega) (by omega) (by omega)]; omega
   refine Ev.step (fun k => ?_) hnext
   conv => lhs; unfold caesuraref11_copyOf.l0
   rw [if_pos hiz, if_pos hi0, row_at L hil, if_pos h1, if_pos h2, hw]
   rfl
 exact key L.length 0 (Nat.zero_le _) rfl
theorem revOk_eq (L : LL) (F La : List Int) (Fo : LL) : revOk L F La Fo = (placedB L F La Fo && (Fo.all (risesB L.length (-1)) && (risesB L.length (-1) F && risesB L.length (-1) La))) := by
 unfold revOk
 simp only [List.all_cons]
 cases placedB L F La Fo <;> cases Fo.all (risesB L.length (-1)) <;> cases risesB L.length (-1) F <;> cases risesB L.length (-1) La <;> rfl

/-- while the lists are copied -/
structure Lq (w : World) (b3 : Nat) (A0 A1 A2 A3 v0 v1 v2 : Value) (b bb : Bool) (X0 : LL) (X1 X2 : List Int) (W : World) : Prop where
 rb : RB w w.heap.size A0 A1 A2 A3 b W
 row : W.heap[b3]? = some (.cells #[v0, v1, v2, .slice none 0 0, .bool bb] 42 (0, 0))
 k0 : Kd.S kL 25 W w.heap.size (fun _ => True) v0 X0
 k1 : Kd.R kI 3 W w.heap.size (fun _ => True) v1 X1
 k2 : Kd.R kI 3 W w.heap.size (fun _ => True) v2 X2
 sb : w.heap.size + 1 < b3
section
variable {w : World} {b3 : Nat} {A0 A1 A2 A3 v0 v1 v2 : Value} {b bb : Bool} {X0 : LL} {X1 X2 : List Int} {W W' W1 : World}
theorem Lq.step (h : Lq w b3 A0 A1 A2 A3 v0 v1 v2 b bb X0 X1 X2 W) (hb : Below W.heap.size W W') : Lq w b3 A0 A1 A2 A3 v0 v1 v2 b bb X0 X1 X2 W' :=
 ⟨h.rb.step hb, (hb.block _ (blk_lt h.row)).trans h.row, Kd.S_below h.k0 hb, Kd.R_below h.k1 hb, Kd.R_below h.k2 hb, h.sb⟩
theorem Lq.put0 (h : Lq w b3 A0 A1 A2 A3 v0 v1 v2 b bb X0 X1 X2 W) {u : Value} {ys : LL} (ho : Kd.S kL 25 W w.heap.size (fun _ => True) u ys) : Lq w b3 A0 A1 A2 A3 u v1 v2 b bb ys X1 X2 (W.setCell ⟨b3, 0, none⟩ u) :=
 ⟨h.rb.set h.sb 0 u, blk_put h.row 0 _ rfl, Kd.S_set ho h.row types42 0 u, Kd.R_set h.k1 h.row types42i 0 u, Kd.R_set h.k2 h.row types42i 0 u, h.sb⟩
theorem Lq.put1 (h : Lq w b3 A0 A1 A2 A3 v0 v1 v2 b bb X0 X1 X2 W) {u : Value} {ys : List Int} (ho : Kd.R kI 3 W w.heap.size (fun _ => True) u ys) : Lq w b3 A0 A1 A2 A3 v0 u v2 b bb X0 ys X2 (W.setCell ⟨b3, 1, none⟩ u) :=
 ⟨h.rb.set h.sb 1 u, blk_put h.row 1 _ rfl, Kd.S_set h.k0 h.row types42 1 u, Kd.R_set ho h.row types42i 1 u, Kd.R_set h.k2 h.row types42i 1 u, h.sb⟩
theorem Lq.put2 (h : Lq w b3 A0 A1 A2 A3 v0 v1 v2 b bb X0 X1 X2 W) {u : Value} {ys : List Int} (ho : Kd.R kI 3 W w.heap.size (fun _ => True) u ys) : Lq w b3 A0 A1 A2 A3 v0 v1 u b bb X0 X1 ys (W.setCell ⟨b3, 2, none⟩ u) :=
 ⟨h.rb.set h.sb 2 u, blk_put h.row 2 _ rfl, Kd.S_set h.k0 h.row types42 2 u, Kd.R_set h.k1 h.row types42i 2 u, Kd.R_set ho h.row types42i 2 u, h.sb⟩
theorem Lq.put4 (h : Lq w b3 A0 A1 A2 A3 v0 v1 v2 b bb X0 X1 X2 W) (q : Bool) : Lq w b3 A0 A1 A2 A3 v0 v1 v2 b q X0 X1 X2 (W.setCell ⟨b3, 4, none⟩ (.bool q)) :=
 ⟨h.rb.set h.sb 4 _, blk_put h.row 4 _ rfl, Kd.S_set h.k0 h.row types42 4 _, Kd.R_set h.k1 h.row types42i 4 _, Kd.R_set h.k2 h.row types42i 4 _, h.sb⟩
theorem Lq.grown (h : Lq w b3 A0 A1 A2 A3 v0 v1 v2 b bb X0 X1 X2 W) (hg : W.grownBy W1 none) : Lq w b3 A0 A1 A2 A3 v0 v1 v2 b bb X0 X1 X2 W1 :=
 h.step ⟨hg.1, hg.2, hg.3, hg.4, fun k hk => hg.block k hk (by simp)⟩
theorem Lq.at (h : Lq w b3 A0 A1 A2 A3 v0 v1 v2 b bb X0 X1 X2 W) : W.cell? ⟨b3, 0, none⟩ = some v0 ∧ W.cell? ⟨b3, 1, none⟩ = some v1 ∧ W.cell? ⟨b3, 2, none⟩ = some v2 ∧ W.cell? ⟨b3, 3, none⟩ = some (.slice none 0 0) ∧ W.cell? ⟨b3, 4, none⟩ = some (.bool bb) ∧ ∀ j, W.frozen? ⟨b3, j, none⟩ = false :=
 ⟨(blk_cell h.row 0).trans rfl, (blk_cell h.row 1).trans rfl, (blk_cell h.row 2).trans rfl, (blk_cell h.row 3).trans rfl, (blk_cell h.row 4).trans rfl, fun j => blk_frozen h.row j⟩
end
/-- while the empty lists are laid: v3's row is the last one made -/
structure L1 (w : World) (N b3 : Nat) (A0 A1 A2 A3 v0 v1 v2 v3 : Value) (b : Bool) (X0 : LL) (X1 X2 : List Int) (T : LL) (W : World) : Prop where
 rb : RB w w.heap.size A0 A1 A2 A3 b W
 row : W.heap[b3]? = some (.cells #[v0, v1, v2, v3, .bool b] 42 (0, 0))
 k0 : Kd.S kL 25 W w.heap.size (fun k => k < N) v0 X0
 k1 : Kd.R kI 3 W w.heap.size (fun k => k < N) v1 X1
 k2 : Kd.R kI 3 W w.heap.size (fun k => k < N) v2 X2
 k3 : (Kd.bare kL).R 25 W w.heap.size (fun k => N ≤ k) v3 T
 sb : w.heap.size + 1 < b3
 bN : b3 < N
 nW : N ≤ W.heap.size
section
variable {w : World} {N b3 : Nat} {A0 A1 A2 A3 v0 v1 v2 v3 : Value} {b : Bool} {X0 T : LL} {X1 X2 : List Int} {W W' W1 : World}
theorem Lq.over (h : Lq w b3 A0 A1 A2 A3 v0 v1 v2 b b X0 X1 X2 W) : L1 w W.heap.size b3 A0 A1 A2 A3 v0 v1 v2 (.slice none 0 0) b X0 X1 X2 [] W :=
 ⟨h.rb, h.row, Kd.S_mono (Kd.S_bound h.k0) (fun k hk => hk.2.2.1), Kd.R_mono (Kd.R_bound h.k1) (fun k hk => hk.2.2.1), Kd.R_mono (Kd.R_bound h.k2) (fun k hk => hk.2.2.1), Kd.R_nil _ _ _ _ _, h.sb, blk_lt h.row, Nat.le_refl _⟩
theorem L1.step (h : L1 w N b3 A0 A1 A2 A3 v0 v1 v2 v3 b X0 X1 X2 T W) (hb : Below W.heap.size W W') : L1 w N b3 A0 A1 A2 A3 v0 v1 v2 v3 b X0 X1 X2 T W' :=
 ⟨h.rb.step hb, (hb.block _ (blk_lt h.row)).trans h.row, Kd.S_below h.k0 hb, Kd.R_below h.k1 hb, Kd.R_below h.k2 hb, Kd.R_below h.k3 hb, h.sb, h.bN, Nat.le_trans h.nW hb.size⟩
theorem L1.put (h : L1 w N b3 A0 A1 A2 A3 v0 v1 v2 v3 b X0 X1 X2 T W) (hg : W.grownBy W1 v3.ownBlock) (hb : Below w.heap.size w W1) {u : Value} {ys : LL} (ho : (Kd.bare kL).R 25 W1 w.heap.size (fun k => N ≤ k) u ys) :
  L1 w N b3 A0 A1 A2 A3 v0 v1 v2 u b X0 X1 X2 ys (W1.setCell ⟨b3, 3, none⟩ u) := by
 have hne : ∀ k, k < N → some k ≠ v3.ownBlock := fun k hk he => by
  have := h.k3.1 k he.symm
  omega
 have hs := h.sb
 have hbN := h.bN
 have hrow := blk_grown h.row hg (hne _ hbN)
 refine ⟨RB.set ⟨hb, blk_grown h.rb.old hg (hne _ (by omega)), blk_grown h.rb.res hg (hne _ (by omega))⟩ hs 3 u, blk_put hrow 3 _ rfl, Kd.S_set (Kd.S_grown h.k0 hg hne) hrow types42 3 u, Kd.R_set (Kd.R_grown h.k1 hg hne) hrow types42i 3 u, Kd.R_set (Kd.R_grown h.k2 hg hne) hrow types42i 3 u, Kd.R_set ho hrow types42 3 u, hs, hbN, ?_⟩
 have := hg.size
 have := h.nW
 simpa [World.setCell] using (by omega : N ≤ W1.heap.size)
theorem L1.at (h : L1 w N b3 A0 A1 A2 A3 v0 v1 v2 v3 b X0 X1 X2 T W) (hg : W.grownBy W1 v3.ownBlock) : W1.cell? ⟨b3, 3, none⟩ = some v3 ∧ W1.frozen? ⟨b3, 3, none⟩ = false := by
 have hne : some b3 ≠ v3.ownBlock := fun he => by
  have := h.k3.1 b3 he.symm
  have := h.bN
  omega
 have hrow := blk_grown h.row hg hne
 exact ⟨(blk_cell hrow 3).trans rfl, blk_frozen hrow 3⟩
theorem L1.over (h : L1 w N b3 A0 A1 A2 A3 v0 v1 v2 v3 b X0 X1 X2 T W) (hT : 0 < T.length) : ∃ g3 c3, v3 = .slice (some ⟨g3, 0, none⟩) T.length c3 ∧
  Ls w W.heap.size b3 g3 A0 A1 A2 A3 v0 v1 v2 (.slice (some ⟨g3, 0, none⟩) T.length c3) b X1 X2 (fun k => k < W.heap.size ∧ k ≠ g3) (fun k => k = g3 ∨ W.heap.size ≤ k) X0 T W := by
 obtain ⟨g3, c3, rfl, _, hlt, _⟩ := Kd.R_form h.k3 hT
 have ho : (Value.slice (some ⟨g3, 0, none⟩) T.length c3).ownBlock = some g3 := by simp [Value.ownBlock]
 have hN : N ≤ g3 := h.k3.1 g3 ho
 have hnW := h.nW
 have k3 : (Kd.bare kL).R 25 W w.heap.size (fun k => some k = (Value.slice (some ⟨g3, 0, none⟩) T.length c3).ownBlock) (.slice (some ⟨g3, 0, none⟩) T.length c3) T := ⟨fun k hk => hk.symm, h.k3.2⟩
 exact ⟨g3, c3, rfl, h.rb, h.row, Kd.S_mono h.k0 (fun k hk => ⟨by omega, by omega⟩), Kd.R_mono h.k1 (fun k hk => by omega), Kd.R_mono h.k2 (fun k hk => by omega), Kd.S_mono (Kd.S_bare k3) (fun k hk => .inl (by rw [ho] at hk; exact Option.some.inj hk)), h.sb, by have := h.bN; omega, hlt, Nat.le_refl _, ho⟩
end
end Go.Proofs.YtfonajakaimnoaaDoor.C11

/- caesuraref11.Reverse: its walk. -/
namespace Go.Proofs.YtfonajakaimnoaaDoor.C11
open Go.RowKit Go.Proofs.YtfonajakaimnoaaDoorW.PrintWords Go.Proofs.YtfonajakaimnoaaDoorW.PrintLast Go.Proofs.YtfonajakaimnoaaDoorW.PrintMore Go.Proofs.YtfonajakaimnoaaDoor.Lib Lent Go.Proofs.YtfonajakaimnoaaDoor.Fn Go.Shelf Go.Proofs.YtfonajakaimnoaaDoor.Stl
set_option linter.unusedVariables false
set_option linter.unusedSimpArgs false
attribute [local go_sem] max2_int min2_int max_two min_two max_three min_three max_four min_four

def dre.T24 : Bool × List (List Nat × List Nat) := (true, [([], []), ([0], [0]), ([], []), ([], []), ([3], [3]), ([], []), ([4, 5], [4, 5]), ([6], [6]), ([], []), ([8], [8]), ([7, 9], [7, 9]), ([1, 2, 0, 1, 2, 3, 4, 5, 6, 7, 8, 9, 10], [1, 2]), ([11, 10, 10, 0, 1, 2, 3, 4, 5, 6, 7, 8, 9, 10], [10, 11])])
def dre.B24 : List Nat := [0, 1, 0, 0, 8, 0, 56, 120, 0, 256, 1016, 2047, 4095]
theorem dre.tab24 : rtab .any (opsOf Tryd.f26 24) = dre.T24 := by kernel_rfl
theorem dre.bits24 : waitsOk dre.T24.2 dre.B24 = true := by kernel_rfl

set_option maxHeartbeats 8000000 in
set_option maxRecDepth 100000 in
theorem doc_reverse_calls (A0 : Option Addr) (c0 : Nat) (L : LL) (A1 : Option Addr) (c1 : Nat) (F : List Int) (A2 : Option Addr) (c2 : Nat) (La : List Int) (A3 : Option Addr) (c3 : Nat) (Fo : LL) (b : Bool) (w : World)
  (h0 : Kd.C kL w A0 L.length L ∧ L.length ≤ c0) (h1 : Kd.C kI w A1 F.length F ∧ F.length ≤ c1) (h2 : Kd.C kI w A2 La.length La ∧ La.length ≤ c2) (h3 : Kd.C kL w A3 Fo.length Fo ∧ Fo.length ≤ c3) (hlen : Fo.length ≤ 5864062014634) (hlen2 : L.length ≤ 5864062014634)
  (h1b : F.length ≤ 17592186043904) (h2b : La.length ≤ 17592186043904) (hLb : ∀ l ∈ L, l.length ≤ 17592186043904) (hFb : ∀ l ∈ Fo, l.length ≤ 17592186043904) :
  Calls Tryd.prog 26 #[.agg #[.slice A0 L.length c0, .slice A1 F.length c1, .slice A2 La.length c2, .slice A3 Fo.length c3, .bool b]] w (revPost L F La Fo b w) := by
 have hu := Tryd.underlying42
 have hbL := C_bound h0.1
 have hbF := C_bound h3.1
 have hFr : ∀ x ∈ Fo, x.length ≤ 9223372036854775807 := fun x hx => by have := hFb x hx; omega
 have hR := Aside0.mk (revOk_eq L F La Fo)
 obtain ⟨p0, hp0⟩ : ∃ p, placedB L F La Fo = p := ⟨_, rfl⟩
 obtain ⟨p1, hp1⟩ : ∃ p, Fo.all (risesB L.length (-1)) = p := ⟨_, rfl⟩
 obtain ⟨p2, hp2⟩ : ∃ p, risesB L.length (-1) F = p := ⟨_, rfl⟩
 obtain ⟨p3, hp3⟩ : ∃ p, risesB L.length (-1) La = p := ⟨_, rfl⟩
 obtain ⟨k0, hk0⟩ := (doc_sound_ev L F La Fo b (by omega) (by omega) hbF hFr).rounds
 obtain ⟨k1, hk1⟩ := (doc_all_ev Fo L.length hbF hFr).rounds
 obtain ⟨k2, hk2⟩ := (doc_rises_ev F L.length (by omega)).rounds
 obtain ⟨k3, hk3⟩ := (doc_rises_ev La L.length (by omega)).rounds
 obtain ⟨kc, hkc⟩ := (copyOf_ev L hlen2 hLb).rounds
 have HP0 := Aside0.mk hp0
 rw [hp0] at hk0 hR
 rw [hp1] at hk1 hR
 rw [hp2] at hk2 hR
 rw [hp3] at hk3 hR
 have H0 := Aside0.mk h0
 have H1 := Aside0.mk h1
 have H2 := Aside0.mk h2
 have H3 := Aside0.mk h3
 have H1b := Aside0.mk h1b
 have H2b := Aside0.mk h2b
 have HK := Aside0.mk (And.intro hk0 (And.intro hk1 (And.intro hk2 (And.intro hk3 hkc))))
 clear h0 h1 h2 h3 h1b h2b hLb hFb hFr hp0 hp1 hp2 hp3 hk0 hk1 hk2 hk3 hkc
 go_enter Tryd.func26, Tryd.ntmps26
 go_wp2_with fail
 have hbW := fun (o1 o2 : Obj) => (below_alloc (below_alloc (Below.refl w.heap.size w) o1) o2)
 refine (caesuraref11_sound.calls k0 A0 c0 L A1 c1 F A2 c2 La A3 c3 Fo b p0 _ (Kd.C_below H0.out.1 (hbW _ _)) H0.out.2 (Kd.C_below H1.out.1 (hbW _ _)) H1.out.2 (Kd.C_below H2.out.1 (hbW _ _)) H2.out.2 (Kd.C_below H3.out.1 (hbW _ _)) H3.out.2 HK.out.1).mono ?_
 rintro e w1 ⟨rfl, hb⟩
 have HB := Aside0.mk (show RB w w.heap.size (.slice A0 L.length c0) (.slice A1 F.length c1) (.slice A2 La.length c2) (.slice A3 Fo.length c3) b w1 from
  ⟨below_step (hbW _ _) hb, (hb.block _ (by simp; omega)).trans (by rw [heap_alloc_old _ _ (by simp)]; exact heap_alloc_new _ _), (hb.block _ (by simp)).trans (by have := heap_alloc_new (w.alloc (.cells #[.slice A0 L.length c0, .slice A1 F.length c1, .slice A2 La.length c2, .slice A3 Fo.length c3, .bool b] 42)) (.cells #[.slice none 0 0, .slice none 0 0, .slice none 0 0, .slice none 0 0, .bool false] 42); simpa using this)⟩)
 clear hb
 obtain ⟨f0, f1, f2, f3, f4⟩ := HB.out.held
 go_wp2_with fail
 refine (caesuraref11_all.calls k1 A3 c3 Fo L.length p1 _ (Kd.C_below H3.out.1 HB.out.below) H3.out.2 HK.out.2.1).mono ?_
 rintro e w2 ⟨rfl, ⟨⟨n1, rfl⟩⟩⟩
 replace HB := Aside0.mk (HB.out.step (pw_below_drewN (Below.refl _ _) n1))
 generalize w1.drewN n1 = w2 at HB ⊢
 clear f0 f1 f2 f3 f4
 obtain ⟨f0, f1, f2, f3, f4⟩ := HB.out.held
 go_wp2_with fail
 refine (caesuraref11_rises.calls k2 A1 c1 F L.length p2 _ (Kd.C_below H1.out.1 HB.out.below) H1.out.2 HK.out.2.2.1).mono ?_
 rintro e w3 ⟨rfl, ⟨⟨n2, rfl⟩⟩⟩
 replace HB := Aside0.mk (HB.out.step (pw_below_drewN (Below.refl _ _) n2))
 generalize w2.drewN n2 = w3 at HB ⊢
 clear f0 f1 f2 f3 f4
 obtain ⟨f0, f1, f2, f3, f4⟩ := HB.out.held
 go_wp2_with fail
 refine (caesuraref11_rises.calls k3 A2 c2 La L.length p3 _ (Kd.C_below H2.out.1 HB.out.below) H2.out.2 HK.out.2.2.2.1).mono ?_
 rintro e w4 ⟨rfl, ⟨⟨n3, rfl⟩⟩⟩
 replace HB := Aside0.mk (HB.out.step (pw_below_drewN (Below.refl _ _) n3))
 generalize w3.drewN n3 = w4 at HB ⊢
 clear f0 f1 f2 f3 f4
 obtain ⟨f0, f1, f2, f3, f4⟩ := HB.out.held
 by_cases hq : (p0 && (p1 && (p2 && p3))) = false
 ·have HP' : Aside0 (revOk L F La Fo = false) := ⟨hR.out.trans hq⟩
  have z0 := (blk_cell HB.out.res 0).trans rfl
  have z1 := (blk_cell HB.out.res 1).trans rfl
  have z2 := (blk_cell HB.out.res 2).trans rfl
  have z3 := (blk_cell HB.out.res 3).trans rfl
  have z4 := (blk_cell HB.out.res 4).trans rfl
  have y0 := blk_frozen HB.out.res 0
  have y1 := blk_frozen HB.out.res 1
  have y2 := blk_frozen HB.out.res 2
  have y3 := blk_frozen HB.out.res 3
  have y4 := blk_frozen HB.out.res 4
  clear hR HP0 HK
  cases p0 <;> cases p1 <;> cases p2 <;> cases p3
  all_goals first
   | (exfalso; revert hq; decide)
   | skip
  all_goals
   clear hq
   go_wp2_with fail
   refine bodyPost_ret (results_cell_row rfl _ _ (w.heap.size + 1) 42 #[.slice none 0 0, .slice none 0 0, .slice none 0 0, .slice none 0 0, .bool false] (0, 0) _ rfl (blk_put (blk_put (blk_put (blk_put (blk_put HB.out.res 0 _ rfl) 1 _ rfl) 2 _ rfl) 3 _ rfl) 4 _ rfl) Tryd.underlying42 rfl (by kernel_rfl)) rfl ?_
   refine ⟨_, _, _, _, by rw [HP'.out]; rfl, by rw [HP'.out]; exact Kd.R_nil _ _ _ _ _, by rw [HP'.out]; exact Kd.R_nil _ _ _ _ _, by rw [HP'.out]; exact Kd.R_nil _ _ _ _ _, by rw [HP'.out]; exact Kd.R_nil _ _ _ _ _, ?_⟩
   exact (((((HB.out.below.setCell (Nat.le_succ _) _).setCell (Nat.le_succ _) _).setCell (Nat.le_succ _) _).setCell (Nat.le_succ _) _).setCell (Nat.le_succ _) _)
 ·have hq' : p0 = true ∧ p1 = true ∧ p2 = true ∧ p3 = true := by revert hq; cases p0 <;> cases p1 <;> cases p2 <;> cases p3 <;> simp
  obtain ⟨rfl, rfl, rfl, rfl⟩ := hq'
  have hOk : Aside0 (revOk L F La Fo = true) := ⟨hR.out⟩
  have PIN := Aside0.mk (placed_in HP0.out)
  clear hR hq HP0
  go_upto_region 9 with fail
  have hq0 : Lq w w4.heap.size (.slice A0 L.length c0) (.slice A1 F.length c1) (.slice A2 La.length c2) (.slice A3 Fo.length c3) (.slice none 0 0) (.slice none 0 0) (.slice none 0 0) b false [] [] [] (w4.alloc (.cells #[.slice none 0 0, .slice none 0 0, .slice none 0 0, .slice none 0 0, .bool false] 42)) :=
   ⟨HB.out.step (below_alloc (Below.refl _ _) _), heap_alloc_new _ _, Kd.S_nil _ _ _ _ _, Kd.R_nil _ _ _ _ _, Kd.R_nil _ _ _ _ _, blk_lt HB.out.res⟩
  have HL := Aside0.mk hq0
  clear hq0 HB f0 f1 f2 f3 f4
  generalize w4.heap.size = b3 at HL ⊢
  generalize w4.alloc _ = w5 at HL ⊢
  obtain ⟨f0, f1, f2, f3, f4⟩ := HL.out.rb.held
  go_wp2_with fail
  refine (caesuraref11_copyOf.calls kc A0 c0 L L _ (Kd.C_below H0.out.1 HL.out.rb.below) H0.out.2 HK.out.2.2.2.2).mono ?_
  rintro e w6 ⟨v0, rfl, ho, hb⟩
  obtain ⟨A9, c9, rfl⟩ := Kd.S_slice ho
  have HV := Aside0.mk (Kd.S_lower ho HL.out.rb.below.size)
  replace HL := Aside0.mk (HL.out.step hb)
  clear ho hb f0 f1 f2 f3 f4
  obtain ⟨x0, x1, x2, x3, x4, xf⟩ := HL.out.at
  go_upto_region 10 with fail
  replace HL := Aside0.mk (HL.out.put0 HV.out)
  clear HV x0 x1 x2 x3 x4 xf
  generalize w6.setCell _ _ = w7 at HL ⊢
  obtain ⟨x0, x1, x2, x3, x4, xf⟩ := HL.out.at
  obtain ⟨f0, f1, f2, f3, f4⟩ := HL.out.rb.held
  go_upto_region 11 with ((with_reducible refine gate_builtin (b := .append) (xs := #[.tmp 50, .tmp 52]) rfl ?_); at_builtin; refine Kd.R_append_rows kI (w0 := w) w.heap.size rfl (.tmp 50) (.tmp 52) 25 3 (.int .i64 0) 8 rfl Tryd.underlying25 info3 rfl (by decide) (by omega) (.slice none 0 0) [] La _ _ _ (fun _ => True) (fun _ => False) rfl rfl ?aO ?aR (fun _ _ h => h) (fun _ h => h.elim) ?aF ?aB ?aS ?aL ?_; (case aR => exact Kd.C_below H2.out.1 HL.out.rb.below); (case aB => exact HL.out.rb.below); (case aF => exact (fun _ _ => trivial)); (case aO => exact Kd.R_nil _ _ _ _ _); (case aS => exact HL.out.rb.below.size); (case aL => have := H2b.out; simp; omega); intro v1 w8 hoz hbz hgz hatz; rw [List.nil_append] at hoz; obtain ⟨B1, d1, rfl⟩ := Kd.R_slice hoz; have HV := Aside0.mk hoz; replace HL := Aside0.mk (HL.out.grown hgz); clear x0 x1 x2 x3 x4 xf f0 f1 f2 f3 f4 hoz hbz hgz hatz; obtain ⟨x0, x1, x2, x3, x4, xf⟩ := HL.out.at)
  replace HL := Aside0.mk (HL.out.put1 HV.out)
  clear HV x0 x1 x2 x3 x4 xf
  generalize w8.setCell _ _ = w9 at HL ⊢
  obtain ⟨x0, x1, x2, x3, x4, xf⟩ := HL.out.at
  obtain ⟨f0, f1, f2, f3, f4⟩ := HL.out.rb.held
  go_upto_region 12 with ((with_reducible refine gate_builtin (b := .append) (xs := #[.tmp 56, .tmp 58]) rfl ?_); at_builtin; refine Kd.R_append_rows kI (w0 := w) w.heap.size rfl (.tmp 56) (.tmp 58) 25 3 (.int .i64 0) 8 rfl Tryd.underlying25 info3 rfl (by decide) (by omega) (.slice none 0 0) [] F _ _ _ (fun _ => True) (fun _ => False) rfl rfl ?aO ?aR (fun _ _ h => h) (fun _ h => h.elim) ?aF ?aB ?aS ?aL ?_; (case aR => exact Kd.C_below H1.out.1 HL.out.rb.below); (case aB => exact HL.out.rb.below); (case aF => exact (fun _ _ => trivial)); (case aO => exact Kd.R_nil _ _ _ _ _); (case aS => exact HL.out.rb.below.size); (case aL => have := H1b.out; simp; omega); intro v1 w10 hoz hbz hgz hatz; rw [List.nil_append] at hoz; obtain ⟨B2, d2, rfl⟩ := Kd.R_slice hoz; have HV := Aside0.mk hoz; replace HL := Aside0.mk (HL.out.grown hgz); clear x0 x1 x2 x3 x4 xf f0 f1 f2 f3 f4 hoz hbz hgz hatz; obtain ⟨x0, x1, x2, x3, x4, xf⟩ := HL.out.at)
  replace HL := Aside0.mk (HL.out.put2 HV.out)
  clear HV x0 x1 x2 x3 x4 xf
  generalize w10.setCell _ _ = w11 at HL ⊢
  obtain ⟨x0, x1, x2, x3, x4, xf⟩ := HL.out.at
  obtain ⟨f0, f1, f2, f3, f4⟩ := HL.out.rb.held
  go_upto_region 13 with fail
  replace HL := Aside0.mk (HL.out.put4 b)
  clear x0 x1 x2 x3 x4 xf f0 f1 f2 f3 f4
  generalize w11.setCell _ _ = w12 at HL ⊢
  have HM := Aside0.mk HL.out.over
  generalize w12.heap.size = N at HM
  clear HL
  go_wp2_with fail
  go_loopg [9] L.length (fun gg v9 wr => ∃ (kk : Nat) (v3 : Value), kk ≤ L.length ∧ L.length - kk ≤ gg ∧ v9 = .int .i64 kk ∧ Aside0 (L1 w N b3 (.slice A0 L.length c0) (.slice A1 F.length c1) (.slice A2 La.length c2) (.slice A3 Fo.length c3) (.slice A9 L.length c9) (.slice B1 La.length d1) (.slice B2 F.length d2) v3 b L La F (List.replicate kk []) wr))
  case atStart => exact ⟨0, _, Nat.zero_le _, by omega, rfl, HM⟩
  case round =>
   clear HM
   obtain ⟨kk, v3, hkk, hg, rfl, HM⟩ := hrel
   by_cases hlt : kk < L.length
   ·have hltz : (kk : Int) < (L.length : Int) := by omega
    have x3 : wr.cell? ⟨b3, 3, none⟩ = some v3 := (blk_cell HM.out.row 3).trans rfl
    have hsn : Aside0 (List.replicate kk [] ++ [([] : List Int)] = List.replicate (kk + 1) []) := ⟨(List.replicate_succ').symm⟩
    obtain ⟨A7, c7, e7⟩ := Kd.R_slice HM.out.k3
    generalize (List.replicate kk ([] : List Int)).length = m7 at e7
    subst e7
    go_upto_region 15 with ((with_reducible refine gate_builtin (b := .append) (xs := #[.tmp 70, .tmp 71]) rfl ?_); at_builtin; refine Kd.R_append (Kd.bare kL) (w0 := w) w.heap.size rfl (.tmp 70) (.tmp 71) 22 25 (.slice none 0 0) 24 rfl Tryd.underlying22 info25 rfl (by decide) (by omega) _ (List.replicate kk []) [] [.slice none 0 0] (fun k => N ≤ k) (fun _ => False) rfl rfl ?aP (fun _ hk => hk.elim) ?aF ?aO ?aB ?aS ?aL ?_; (case aP => exact ⟨_, rfl, Kd.R_nil _ _ _ _ _⟩); (case aF => exact (fun k hk => Nat.le_trans HM.out.nW hk)); (case aO => exact HM.out.k3); (case aB => exact HM.out.rb.below); (case aS => exact HM.out.rb.below.size); (case aL => simp only [List.length_replicate]; omega); intro vz wz hoz hbz hgz hatz; rw [hsn.out] at hoz; obtain ⟨A8, c8, e8⟩ := Kd.R_slice hoz; generalize (List.replicate (kk + 1) ([] : List Int)).length = m8 at e8; subst e8; obtain ⟨y3, yf⟩ := HM.out.at hgz; have HM2 := Aside0.mk (HM.out.put hgz hbz hoz); clear hoz hbz hgz hatz x3)
    clear y3 yf
    generalize wz.setCell _ _ = wy at HM2 ⊢
    go_wp2
    go_roundg (L.length - (kk + 1))
    case measure => omega
    case rel => exact ⟨kk + 1, _, by omega, by omega, by go_num, HM2⟩
   ·have hltz : ¬ (kk : Int) < (L.length : Int) := by omega
    obtain rfl : L.length = kk := by omega
    have hFL := PIN.out.1
    by_cases hn : 0 < L.length
    ·obtain ⟨g3, c3', rfl, hLs⟩ := HM.out.over (by rw [List.length_replicate]; exact hn)
     rw [List.length_replicate] at hLs
     have HL := Aside0.mk hLs
     clear hLs HM
     obtain ⟨N1, hN1⟩ : ∃ N1, N1 = wr.heap.size := ⟨_, rfl⟩
     rw [← hN1] at HL
     clear hN1
     go_wp2_with fail
     go_loopg [10] L.length (fun gg v10 wr => ∃ (kk : Nat), kk ≤ L.length ∧ L.length - kk ≤ gg ∧ v10 = .int .i64 kk ∧ Aside0 (Ls w N1 b3 g3 (.slice A0 L.length c0) (.slice A1 F.length c1) (.slice A2 La.length c2) (.slice A3 Fo.length c3) (.slice A9 L.length c9) (.slice B1 La.length d1) (.slice B2 F.length d2) (.slice (some ⟨g3, 0, none⟩) L.length c3') b La F (fun k => k < N1 ∧ k ≠ g3) (fun k => k = g3 ∨ N1 ≤ k) L (turnK Fo L.length kk) wr))
     case atStart => exact ⟨0, Nat.zero_le _, by omega, rfl, HL⟩
     case round =>
      clear HL
      obtain ⟨kk, hkk2, hg2, rfl, HL⟩ := hrel
      by_cases hlt2 : kk < L.length
      ·have hltz2 : (kk : Int) < (L.length : Int) := by omega
       have hltF : kk < Fo.length := by omega
       have hltz3 : (kk : Int) < (Fo.length : Int) := by omega
       obtain ⟨ad, A5, c5, rfl, hcell', h5, h6⟩ := list_at H3.out.1 kk Fo[kk] (List.getElem?_eq_getElem hltF)
       have hget : Aside0 (Fo.getD kk [] = Fo[kk]) := ⟨by rw [List.getD_eq_getElem?_getD, List.getElem?_eq_getElem hltF]; rfl⟩
       have hmem : Aside0 (∀ q ∈ Fo[kk], 0 ≤ q ∧ q < (L.length : Int)) := ⟨PIN.out.2.2.2 _ (List.getElem_mem hltF)⟩
       have htt : Aside0 (risesB L.length (-1) Fo[kk] = true) := ⟨(rev_rows hOk.out).2 _ (List.getElem_mem hltF)⟩
       have hKL : Aside0 (∀ y, ((turnK Fo L.length kk).getD y []).length ≤ kk) := ⟨turnK_len Fo L.length (rev_rows hOk.out).2 kk⟩
       have hkL : Aside0 (kk < L.length) := ⟨by omega⟩
       generalize Fo[kk] = x at hcell' h5 h6 hget hmem htt
       have H6 := Aside0.mk (And.intro h5 h6)
       have HC5 := Aside0.mk hcell'
       have hbx := C_bound h6
       clear h5 h6 hcell'
       go_wp2_with fail
       go_loopg [11] x.length (fun gg v11 wr => ∃ (j : Nat), j ≤ x.length ∧ x.length - j ≤ gg ∧ v11 = .int .i64 j ∧ Aside0 (Ls w N1 b3 g3 (.slice A0 L.length c0) (.slice A1 F.length c1) (.slice A2 La.length c2) (.slice (some ad) Fo.length c3) (.slice A9 L.length c9) (.slice B1 La.length d1) (.slice B2 F.length d2) (.slice (some ⟨g3, 0, none⟩) L.length c3') b La F (fun k => k < N1 ∧ k ≠ g3) (fun k => k = g3 ∨ N1 ≤ k) L (turnRow kk (turnK Fo L.length kk) (x.take j)) wr))
       case atStart => exact ⟨0, Nat.zero_le _, by omega, rfl, HL⟩
       case round =>
        clear HL
        obtain ⟨j, hj, hgj, rfl, HL⟩ := hrel
        obtain ⟨f0, f1, f2, f3, f4⟩ := HL.out.rb.held
        have hcell5 := pw_cell_below HL.out.rb.below HC5.out
        by_cases hlj : j < x.length
        ·have hljz : (j : Int) < (x.length : Int) := by omega
         obtain ⟨ad5, rfl, hcell'⟩ := int_at H6.out.2 j x[j] (List.getElem?_eq_getElem hlj)
         have hcell := pw_cell_below HL.out.rb.below hcell'
         have hxj : Aside0 (x[j]? = some x[j]) := ⟨List.getElem?_eq_getElem hlj⟩
         have hyy := hmem.out x[j] (List.getElem_mem hlj)
         generalize x[j] = y at hcell hcell' hxj hyy
         obtain ⟨y, rfl⟩ := Int.eq_ofNat_of_zero_le hyy.1
         have hqn : y < L.length := by omega
         have hq1 : (0 : Int) ≤ (y : Int) := by omega
         have hq2 : (y : Int) < (L.length : Int) := by omega
         have hTs : Aside0 (turnRow kk (turnK Fo L.length kk) (x.take (j + 1)) = (turnRow kk (turnK Fo L.length kk) (x.take j)).set y ((turnRow kk (turnK Fo L.length kk) (x.take j)).getD y [] ++ [(kk : Int)])) := ⟨turnRow_snoc _ _ _ _ _ hxj.out⟩
         have HLen : Aside0 (((turnRow kk (turnK Fo L.length kk) (x.take j)).getD y []).length ≤ 5864062014634) := ⟨by
          have h1 := turnRow_part kk L.length (turnK Fo L.length kk) x j (turnK_length _ _ _) htt.out y
          have h2 := hKL.out y
          have h3 := hkL.out
          omega⟩
         generalize turnRow kk (turnK Fo L.length kk) (x.take j) = T at HL hTs HLen
         clear hyy hcell'
         go_upto_region 24 with fail
         clear hcell hcell5 f0 f1 f2 f3 f4
         replace HL := Aside0.mk (HL.out.step (below_drew (Below.refl _ wr)))
         obtain ⟨oki, cc, _, hM, hcc, hoki, hH⟩ := Kd.S_lend HL.out.k3 [] (y : Int) hq1 hq2
         obtain ⟨u, rfl, hu⟩ := hM
         have HC := Aside0.mk (And.intro (show (wr.drew).cell? ⟨g3, y, none⟩ = some u from (by have := hcc 0 u rfl; rwa [show ((y : Int)).toNat * kL.sz + 0 = y from Nat.mul_one _] at this)) trivial)
         have HU : Aside0 (Kd.R kI 3 wr.drew w.heap.size oki u (T.getD y [])) := ⟨hu⟩
         have HO := Aside0.mk hoki
         have HH := Aside0.mk hH
         clear hu hcc hoki hH
         refine start_ (n := 13) (S := fun w' => w'.cell? ⟨b3, 3, none⟩ = some (.slice (some ⟨g3, 0, none⟩) L.length c3') ∧ w'.cell? ⟨g3, y, none⟩ = some u) (ds := [12]) #[false, false, false, false, false, false, false, false, false, false, false, false, false] (by kernel_rfl) rfl rfl ⟨(blk_cell HL.out.row 3).trans rfl, HC.out.1⟩ (fun hHeld => ?_)
         refine with_tabW dre.tab24 dre.bits24 (fun HT_ HW_ => ?_)
         generalize wr.drew = wn at HL HC HU HH hHeld ⊢
         refine pure_ (i := 0) (N := some 97) (v := ?_) (a' := ?_) #[true, false, false, false, false, false, false, false, false, false, false, false, false] rfl rfl (any_of HT_.out (by kernel_rfl)) (fun _ _ _ h => h) (Or.inl ⟨by rfl, ?_⟩) ?_ ?_
         rotate_left
         ·intro w'
          go_simp
          with_reducible rfl
         rotate_left
         ·simp only [Act.put, List.setIfInBounds_toArray, List.set_cons_zero, List.set_cons_succ, i64_w, i32_w]
          rfl
         refine take_ (i := 1) (N := some 98) (v := ?_) (a' := ?_) #[true, true, false, false, false, false, false, false, false, false, false, false, false] rfl rfl (take_ofW HT_.out HW_.out (by kernel_rfl)) (fun _ _ _ h => h) (Or.inl ⟨by rfl, ?_⟩) hHeld ?_ ?_
         rotate_left
         ·rintro w' ⟨s0, s1⟩
          go_simp
          with_reducible rfl
         rotate_left
         ·simp only [Act.put, List.setIfInBounds_toArray, List.set_cons_zero, List.set_cons_succ, i64_w, i32_w]
          rfl
         refine pure_ (i := 2) (N := some 99) (v := ?_) (a' := ?_) #[true, true, true, false, false, false, false, false, false, false, false, false, false] rfl rfl (any_of HT_.out (by kernel_rfl)) (fun _ _ _ h => h) (Or.inl ⟨by rfl, ?_⟩) ?_ ?_
         rotate_left
         ·intro w'
          go_simp
          with_reducible rfl
         rotate_left
         ·simp only [Act.put, List.setIfInBounds_toArray, List.set_cons_zero, List.set_cons_succ, i64_w, i32_w]
          rfl
         refine pure_ (i := 3) (N := some 100) (v := ?_) (a' := ?_) #[true, true, true, true, false, false, false, false, false, false, false, false, false] rfl rfl (any_of HT_.out (by kernel_rfl)) (fun _ _ _ h => h) (Or.inl ⟨by rfl, ?_⟩) ?_ ?_
         rotate_left
         ·intro w'
          go_simp
          with_reducible rfl
         rotate_left
         ·simp only [Act.put, List.setIfInBounds_toArray, List.set_cons_zero, List.set_cons_succ, i64_w, i32_w]
          rfl
         refine take_ (i := 4) (N := some 101) (v := ?_) (a' := ?_) #[true, true, true, true, true, false, false, false, false, false, false, false, false] rfl rfl (take_ofW HT_.out HW_.out (by kernel_rfl)) (fun _ _ _ h => h) (Or.inl ⟨by rfl, ?_⟩) hHeld ?_ ?_
         rotate_left
         ·rintro w' ⟨s0, s1⟩
          go_simp
          with_reducible rfl
         rotate_left
         ·simp only [Act.put, List.setIfInBounds_toArray, List.set_cons_zero, List.set_cons_succ, i64_w, i32_w]
          rfl
         refine pure_ (i := 5) (N := some 102) (v := ?_) (a' := ?_) #[true, true, true, true, true, true, false, false, false, false, false, false, false] rfl rfl (any_of HT_.out (by kernel_rfl)) (fun _ _ _ h => h) (Or.inl ⟨by rfl, ?_⟩) ?_ ?_
         rotate_left
         ·intro w'
          go_simp
          with_reducible rfl
         rotate_left
         ·simp only [Act.put, List.setIfInBounds_toArray, List.set_cons_zero, List.set_cons_succ, i64_w, i32_w]
          rfl
         refine pure_ (i := 6) (N := some 103) (v := ?_) (a' := ?_) #[true, true, true, true, true, true, true, false, false, false, false, false, false] rfl rfl (any_of HT_.out (by kernel_rfl)) (fun _ _ _ h => h) (Or.inl ⟨by rfl, ?_⟩) ?_ ?_
         rotate_left
         ·intro w'
          go_simp
          with_reducible rfl
         rotate_left
         ·simp only [Act.put, List.setIfInBounds_toArray, List.set_cons_zero, List.set_cons_succ, i64_w, i32_w]
          rfl
         refine take_ (i := 7) (N := some 104) (v := ?_) (a' := ?_) #[true, true, true, true, true, true, true, true, false, false, false, false, false] rfl rfl (take_ofW HT_.out HW_.out (by kernel_rfl)) (fun _ _ _ h => h) (Or.inl ⟨by rfl, ?_⟩) hHeld ?_ ?_
         rotate_left
         ·rintro w' ⟨s0, s1⟩
          go_simp
          with_reducible rfl
         rotate_left
         ·simp only [Act.put, List.setIfInBounds_toArray, List.set_cons_zero, List.set_cons_succ, i64_w, i32_w]
          rfl
         refine pure_ (i := 8) (N := some 105) (v := ?_) (a' := ?_) #[true, true, true, true, true, true, true, true, true, false, false, false, false] rfl rfl (any_of HT_.out (by kernel_rfl)) (fun _ _ _ h => h) (Or.inl ⟨by rfl, ?_⟩) ?_ ?_
         rotate_left
         ·intro w'
          go_simp
          with_reducible rfl
         rotate_left
         ·simp only [Act.put, List.setIfInBounds_toArray, List.set_cons_zero, List.set_cons_succ, i64_w, i32_w]
          rfl
         refine one_ (i := 9) (N := some 106) #[true, true, true, true, true, true, true, true, true, true, false, false, false] rfl rfl (one_of HT_.out (by kernel_rfl)) (by decide) (fun K hK => ?_)
         refine value_ (w1 := ?_) (v := ?_) (by rfl) rfl ?_ ?_
         rotate_left 2
         ·go_simp
          repeat' (first | rfl | constructor)
         refine hK.out _ _ ⟨(blk_cell (blk_alloc HL.out.row _) 3).trans rfl, cell_alloc HC.out.1 _⟩ (fun hHeld => ?_)
         clear hK K
         refine norm_ (a' := ?_) ?_ ?_
         rotate_left
         ·show Act.put _ (some 106) _ = _
          simp only [Act.put, List.setIfInBounds_toArray, List.set_cons_zero, List.set_cons_succ, i64_w, i32_w]
          rfl
         refine one_ (i := 10) (N := some 107) #[true, true, true, true, true, true, true, true, true, true, true, false, false] rfl rfl (one_of HT_.out (by kernel_rfl)) (by decide) (fun K hK => ?_)
         refine Kd.R_append_step kI (w0 := w) w.heap.size (by rfl) (.tmp 104) (.tmp 106) 25 3 (.int .i64 0) 8 rfl Tryd.underlying25 info3 rfl (by decide) (by omega) u (T.getD y []) (kk : Int) [.int .i64 kk] (fun k => oki k ∨ (k = g3 ∨ N1 ≤ k) ∧ wn.heap.size ≤ k) (fun _ => False) rfl rfl ?aP (fun _ hk => hk.elim) ?aF ?aO ?aB ?aS ?aL ?_
         case aP => exact rfl
         case aF => exact fun k hk => .inr ⟨.inr (by have := HL.out.nW; omega), hk⟩
         case aO => exact Kd.R_mono HU.out (fun k hk => .inl hk)
         case aB => exact HL.out.rb.below
         case aS => exact HL.out.rb.below.size
         case aL => have := HLen.out; omega
         intro u' wq ho hb hg hat
         obtain ⟨A7, c7, e7⟩ := Kd.R_slice ho
         generalize (T.getD y [] ++ [(kk : Int)]).length = m7 at e7
         subst e7
         have HF := Aside0.mk (Ls.put3 HL.out hqn HO.out HU.out HH.out hg hb ho)
         have HR := Aside0.mk (put3_at HL.out hqn HO.out HU.out HH.out hg)
         clear ho hb hg hat
         refine hK.out _ _ ⟨HR.out.1, HR.out.2.1⟩ (fun hHeld => ?_)
         clear hK K
         refine norm_ (a' := ?_) ?_ ?_
         rotate_left
         ·show Act.put _ (some 107) _ = _
          simp only [Act.put, List.setIfInBounds_toArray, List.set_cons_zero, List.set_cons_succ, i64_w, i32_w]
          rfl
         refine pure_ (i := 11) (N := some 108) (v := ?_) (a' := ?_) #[true, true, true, true, true, true, true, true, true, true, true, true, false] rfl rfl (any_of HT_.out (by kernel_rfl)) (fun _ _ _ h => h) (Or.inl ⟨by rfl, ?_⟩) ?_ ?_
         rotate_left
         ·intro w'
          go_simp
          with_reducible rfl
         rotate_left
         ·simp only [Act.put, List.setIfInBounds_toArray, List.set_cons_zero, List.set_cons_succ, i64_w, i32_w]
          rfl
         refine last_ (i := 12) (N := none) #[true, true, true, true, true, true, true, true, true, true, true, true, true] rfl rfl (one_of HT_.out (by kernel_rfl)) (by decide) (fun K hK => ?_)
         have hs0 := HR.out.2.1
         have hf0 := HR.out.2.2
         refine skip_ (w1 := ?_) (by rfl) rfl ?_ ?_
         rotate_left
         ·go_simp
          rfl
         refine hK.out _ _ ?_
         clear hK K
         refine done_ (done_of HT_.out (by kernel_rfl)) ?_
         go_wp2
         go_roundg (x.length - (j + 1))
         case measure => omega
         case rel => exact ⟨j + 1, by omega, by omega, by go_num, ⟨by rw [hTs.out]; exact HF.out⟩⟩
        ·have hljz : ¬ (j : Int) < (x.length : Int) := by omega
         obtain rfl : x.length = j := by omega
         rw [List.take_length] at HL
         go_wp2
         go_roundg (L.length - (kk + 1))
         case measure => omega
         case rel => exact ⟨kk + 1, by omega, by omega, by go_num, ⟨by rw [show turnK Fo L.length (kk + 1) = turnRow kk (turnK Fo L.length kk) x from by rw [← hget.out]; rfl]; exact HL.out⟩⟩
      ·have hltz2 : ¬ (kk : Int) < (L.length : Int) := by omega
       obtain rfl : L.length = kk := by omega
       have z0 : wr.cell? ⟨w.heap.size + 1, 0, none⟩ = some (.slice none 0 0) := (blk_cell HL.out.rb.res 0).trans rfl
       have z1 : wr.cell? ⟨w.heap.size + 1, 1, none⟩ = some (.slice none 0 0) := (blk_cell HL.out.rb.res 1).trans rfl
       have z2 : wr.cell? ⟨w.heap.size + 1, 2, none⟩ = some (.slice none 0 0) := (blk_cell HL.out.rb.res 2).trans rfl
       have z3 : wr.cell? ⟨w.heap.size + 1, 3, none⟩ = some (.slice none 0 0) := (blk_cell HL.out.rb.res 3).trans rfl
       have z4 : wr.cell? ⟨w.heap.size + 1, 4, none⟩ = some (.bool false) := (blk_cell HL.out.rb.res 4).trans rfl
       have y0 := blk_frozen HL.out.rb.res 0
       have y1 := blk_frozen HL.out.rb.res 1
       have y2 := blk_frozen HL.out.rb.res 2
       have y3 := blk_frozen HL.out.rb.res 3
       have y4 := blk_frozen HL.out.rb.res 4
       have x0 := (blk_cell HL.out.row 0).trans rfl
       have x1 := (blk_cell HL.out.row 1).trans rfl
       have x2 := (blk_cell HL.out.row 2).trans rfl
       have x3 := (blk_cell HL.out.row 3).trans rfl
       have x4 := (blk_cell HL.out.row 4).trans rfl
       go_wp2_with fail
       refine bodyPost_ret (results_cell_row rfl _ _ (w.heap.size + 1) 42 #[.slice A9 L.length c9, .slice B1 La.length d1, .slice B2 F.length d2, .slice (some ⟨g3, 0, none⟩) L.length c3', .bool b] (0, 0) _ rfl (blk_put (blk_put (blk_put (blk_put (blk_put HL.out.rb.res 0 _ rfl) 1 _ rfl) 2 _ rfl) 3 _ rfl) 4 _ rfl) Tryd.underlying42 rfl (by kernel_rfl)) rfl ?_
       refine ⟨_, _, _, _, by rw [hOk.out]; rfl, ?_, ?_, ?_, ?_, ?_⟩
       ·rw [hOk.out]; exact R_set5 (Kd.S_R HL.out.k0) HL.out.rb.res types42 _ _ _ _ _
       ·rw [hOk.out]; exact R_set5 HL.out.k1 HL.out.rb.res types42i _ _ _ _ _
       ·rw [hOk.out]; exact R_set5 HL.out.k2 HL.out.rb.res types42i _ _ _ _ _
       ·rw [hOk.out]; exact R_set5 (Kd.S_R HL.out.k3) HL.out.rb.res types42 _ _ _ _ _
       ·exact (((((HL.out.rb.below.setCell (Nat.le_succ _) _).setCell (Nat.le_succ _) _).setCell (Nat.le_succ _) _).setCell (Nat.le_succ _) _).setCell (Nat.le_succ _) _)
    ·have hz : L.length = 0 := by omega
     have hL0 : Aside0 (L.length = 0) := ⟨hz⟩
     clear hn hz
     go_wp2_with fail
     go_loopg [10] 0 (fun gg v10 wq => v10 = .int .i64 0 ∧ wq = wr)
     case atStart => exact ⟨rfl, rfl⟩
     case round =>
      obtain ⟨rfl, rfl⟩ := hrel
      have hl0 : ¬ (0 : Int) < (L.length : Int) := by have := hL0.out; omega
      obtain ⟨A7, c7, e7⟩ := Kd.R_slice HM.out.k3
      generalize (List.replicate L.length ([] : List Int)).length = m7 at e7
      subst e7
      have z0 : wr.cell? ⟨w.heap.size + 1, 0, none⟩ = some (.slice none 0 0) := (blk_cell HM.out.rb.res 0).trans rfl
      have z1 : wr.cell? ⟨w.heap.size + 1, 1, none⟩ = some (.slice none 0 0) := (blk_cell HM.out.rb.res 1).trans rfl
      have z2 : wr.cell? ⟨w.heap.size + 1, 2, none⟩ = some (.slice none 0 0) := (blk_cell HM.out.rb.res 2).trans rfl
      have z3 : wr.cell? ⟨w.heap.size + 1, 3, none⟩ = some (.slice none 0 0) := (blk_cell HM.out.rb.res 3).trans rfl
      have z4 : wr.cell? ⟨w.heap.size + 1, 4, none⟩ = some (.bool false) := (blk_cell HM.out.rb.res 4).trans rfl
      have y0 := blk_frozen HM.out.rb.res 0
      have y1 := blk_frozen HM.out.rb.res 1
      have y2 := blk_frozen HM.out.rb.res 2
      have y3 := blk_frozen HM.out.rb.res 3
      have y4 := blk_frozen HM.out.rb.res 4
      have x0 := (blk_cell HM.out.row 0).trans rfl
      have x1 := (blk_cell HM.out.row 1).trans rfl
      have x2 := (blk_cell HM.out.row 2).trans rfl
      have x3 := (blk_cell HM.out.row 3).trans rfl
      have x4 := (blk_cell HM.out.row 4).trans rfl
      go_wp2_with fail
      refine bodyPost_ret (results_cell_row rfl _ _ (w.heap.size + 1) 42 #[.slice A9 L.length c9, .slice B1 La.length d1, .slice B2 F.length d2, .slice A7 m7 c7, .bool b] (0, 0) _ rfl (blk_put (blk_put (blk_put (blk_put (blk_put HM.out.rb.res 0 _ rfl) 1 _ rfl) 2 _ rfl) 3 _ rfl) 4 _ rfl) Tryd.underlying42 rfl (by kernel_rfl)) rfl ?_
      refine ⟨_, _, _, _, by rw [hOk.out]; rfl, ?_, ?_, ?_, ?_, ?_⟩
      ·rw [hOk.out]; exact R_set5 (Kd.S_R HM.out.k0) HM.out.rb.res types42 _ _ _ _ _
      ·rw [hOk.out]; exact R_set5 HM.out.k1 HM.out.rb.res types42i _ _ _ _ _
      ·rw [hOk.out]; exact R_set5 HM.out.k2 HM.out.rb.res types42i _ _ _ _ _
      ·rw [hOk.out]; exact R_set5 (show Kd.R kL 25 _ w.heap.size (fun k => N ≤ k) (.slice A7 m7 c7) (turnK Fo L.length L.length) from by rw [show turnK Fo L.length L.length = List.replicate L.length [] from by rw [hL0.out]; rfl]; exact Kd.S_R (Kd.S_bare HM.out.k3)) HM.out.rb.res types42 _ _ _ _ _
      ·exact (((((HM.out.rb.below.setCell (Nat.le_succ _) _).setCell (Nat.le_succ _) _).setCell (Nat.le_succ _) _).setCell (Nat.le_succ _) _).setCell (Nat.le_succ _) _)
end Go.Proofs.YtfonajakaimnoaaDoor.C11

namespace Go.Proofs.YtfonajakaimnoaaDoor.Lib
open Go.RowKit Go.Proofs.YtfonajakaimnoaaDoorW.PrintWords Go.Proofs.YtfonajakaimnoaaDoorW.PrintLast Go.Proofs.YtfonajakaimnoaaDoorW.PrintMore
attribute [local go_sem] max2_int min2_int max_two min_two max_three min_three max_four min_four   -- for this text's walks alone
set_option linter.unusedVariables false
set_option linter.unusedSimpArgs false

/-! ### caesuraref0_SameInts: function 16 -/
def caesuraref0_SameInts.l0 : Nat → List Int → List Int → Int → Option (Bool)
 | 0, _, _, _ => none
 | k + 1, x0, x1, x5 => if x5 < (x0.length : Int) then (if 0 ≤ x5 then (if x5 < (x1.length : Int) then (if (rd x0 x5) = (rd x1 x5) then (caesuraref0_SameInts.l0 k x0 x1 (wrap64 (x5 + 1))) else (some false)) else (none)) else (none)) else (some true)
def caesuraref0_SameInts.f (k : Nat) (l0 : List Int) (l1 : List Int) : Option (Bool) := if (l0.length : Int) = (l1.length : Int) then (caesuraref0_SameInts.l0 k l0 l1 0) else (some false)
theorem caesuraref0_SameInts.mono_l : ∀ k, (∀ y0 y1 y2, LeO (caesuraref0_SameInts.l0 k y0 y1 y2) (caesuraref0_SameInts.l0 (k + 1) y0 y1 y2))
 | 0 => fun _ _ _ r h => by simp [caesuraref0_SameInts.l0] at h
 | k + 1 => by
  have ih0 := caesuraref0_SameInts.mono_l k
  ·intro y0 y1 y2
   unfold caesuraref0_SameInts.l0
   repeat' first
   | (with_reducible exact ih0 _ _ _)
   | (with_reducible exact LeO.refl _)
   | (with_reducible exact LeO.none _)
   | (with_reducible refine LeO.ite ?_ ?_)
   | (with_reducible refine LeO.bind ?_ (fun _ => ?_))
   | exact ih0 _ _ _
   | exact LeO.none _
   | refine LeO.ite ?_ ?_
   | refine LeO.bind ?_ (fun _ => ?_)
theorem caesuraref0_SameInts.mono : ∀ a0 a1 k, LeO (caesuraref0_SameInts.f k a0 a1) (caesuraref0_SameInts.f (k + 1) a0 a1) := by
 intro a0 a1 k
 have ih0 := caesuraref0_SameInts.mono_l k
 unfold caesuraref0_SameInts.f
 repeat' first
   | (with_reducible exact ih0 _ _ _)
   | (with_reducible exact LeO.refl _)
   | (with_reducible exact LeO.none _)
   | (with_reducible refine LeO.ite ?_ ?_)
   | (with_reducible refine LeO.bind ?_ (fun _ => ?_))
   | exact ih0 _ _ _
   | exact LeO.none _
   | refine LeO.ite ?_ ?_
   | refine LeO.bind ?_ (fun _ => ?_)
set_option maxHeartbeats 8000000 in
set_option maxRecDepth 100000 in
theorem caesuraref0_SameInts.calls (k : Nat) (A0 : Option Addr) (c0 : Nat) (l0 : List Int) (A1 : Option Addr) (c1 : Nat) (l1 : List Int) (r : Bool) (w : World) (hr0 : Kd.C (Kd.int .i64) w A0 l0.length l0) (hc0 : l0.length ≤ c0) (hr1 : Kd.C (Kd.int .i64) w A1 l1.length l1) (hc1 : l1.length ≤ c1) (h : caesuraref0_SameInts.f k l0 l1 = some r) :
  Calls Tryd.prog 16 #[.slice A0 l0.length c0, .slice A1 l1.length c1] w fun e w' => e = .returned (.bool r) ∧ Drawn0 w w' := by
 have HR0 := Aside0.mk hr0
 have HC0 := Aside0.mk hc0
 clear hr0 hc0
 have HR1 := Aside0.mk hr1
 have HC1 := Aside0.mk hc1
 clear hr1 hc1
 have H : (if (l0.length : Int) = (l1.length : Int) then (caesuraref0_SameInts.l0 k l0 l1 0) else (some false)) = some r := h
 clear h
 by_cases c3 : (l0.length : Int) = (l1.length : Int)
 ·rw [if_pos c3] at H
  have c3b0 : ((l0.length : Int) == (l1.length : Int)) = true := beq_iff_eq.mpr c3
  have c3b1 : ((l0.length : Int) != (l1.length : Int)) = false := bne_eq_false_iff_eq.mpr c3
  have c3b2 : (l0.length == l1.length) = true := by first | simpa using c3 | (simp at c3 ⊢; omega)
  clear c3
  have H' := Aside0.mk H
  clear H
  go_enter Tryd.func16, Tryd.ntmps16
  go_wp2
  repeat (go_quiet (fail); try go_wp2)
  go_loopg [5] k (fun kq v5 w' => ∃ (x5_1 : Int), v5 = .int .i64 x5_1 ∧ Aside0 (caesuraref0_SameInts.l0 kq l0 l1 x5_1 = some r) ∧ Aside0 (kq ≤ k) ∧ Drawn0 w w')
  case atStart => exact ⟨(0), (by first | rfl | (simp; done) | (simp [*]; done)), H', ⟨Nat.le_refl _⟩, by repeat (first | exact Drawn0.refl _ | apply Drawn0.step)⟩
  case round =>
   clear H'
   try clear c1
   try clear p2
   try clear c3
   try clear c3b0
   try clear c3b1
   try clear c3b2
   obtain ⟨x5_1, rfl, HA, HK1, ⟨m1, rfl⟩⟩ := hrel
   cases gk with
   | zero => exact absurd HA.out (by simp [caesuraref0_SameInts.l0])
   | succ k1 =>
    have H := HA.out
    clear HA
    simp only [caesuraref0_SameInts.l0] at H
    by_cases c4 : x5_1 < (l0.length : Int)
    ·rw [if_pos c4] at H
     have c4b0 : decide (x5_1 < (l0.length : Int)) = true := decide_eq_true c4
     clear c4
     by_cases c5 : 0 ≤ x5_1
     ·rw [if_pos c5] at H
      have c5b0 : decide (0 ≤ x5_1) = true := decide_eq_true c5
      clear c5
      by_cases c6 : x5_1 < (l1.length : Int)
      ·rw [if_pos c6] at H
       have c6b0 : decide (x5_1 < (l1.length : Int)) = true := decide_eq_true c6
       clear c6
       by_cases c7 : (rd l0 x5_1) = (rd l1 x5_1)
       ·rw [if_pos c7] at H
        have c7b0 : ((rd l0 x5_1) == (rd l1 x5_1)) = true := beq_iff_eq.mpr c7
        have c7b1 : ((rd l0 x5_1) != (rd l1 x5_1)) = false := bne_eq_false_iff_eq.mpr c7
        clear c7
        have H' := Aside0.mk H
        clear H
        have p150 : 0 ≤ (x5_1 : Int) := of_decide_eq_true (by first | (with_reducible assumption) | assumption)
        have q150 : x5_1 < (l0.length : Int) := of_decide_eq_true (by first | (with_reducible assumption) | assumption)
        obtain ⟨ad150, e150, hx150_0⟩ := Kd.at_int HR0.out x5_1 p150 q150
        cases e150
        replace p150 := eq_true p150
        replace q150 := eq_true q150
        have p151 : 0 ≤ (x5_1 : Int) := of_decide_eq_true (by first | (with_reducible assumption) | assumption)
        have q151 : x5_1 < (l1.length : Int) := of_decide_eq_true (by first | (with_reducible assumption) | assumption)
        obtain ⟨ad151, e151, hx151_0⟩ := Kd.at_int HR1.out x5_1 p151 q151
        cases e151
        replace p151 := eq_true p151
        replace q151 := eq_true q151
        go_wp2
        repeat (go_quiet (fail); try go_wp2)
        go_roundg k1
        case measure => have := HK1.out; omega
        case rel => exact ⟨(wrap64 (x5_1 + 1)), (by first | rfl | (simp; done) | (simp [*]; done)), H', ⟨by have := HK1.out; omega⟩, by repeat (first | exact Drawn0.refl _ | apply Drawn0.step)⟩
       ·rw [if_neg c7] at H
        have c7b0 : ((rd l0 x5_1) == (rd l1 x5_1)) = false := beq_eq_false_iff_ne.mpr c7
        have c7b1 : ((rd l0 x5_1) != (rd l1 x5_1)) = true := bne_iff_ne.mpr c7
        obtain rfl := Option.some.inj H
        have p150 : 0 ≤ (x5_1 : Int) := of_decide_eq_true (by first | (with_reducible assumption) | assumption)
        have q150 : x5_1 < (l0.length : Int) := of_decide_eq_true (by first | (with_reducible assumption) | assumption)
        obtain ⟨ad150, e150, hx150_0⟩ := Kd.at_int HR0.out x5_1 p150 q150
        cases e150
        replace p150 := eq_true p150
        replace q150 := eq_true q150
        have p151 : 0 ≤ (x5_1 : Int) := of_decide_eq_true (by first | (with_reducible assumption) | assumption)
        have q151 : x5_1 < (l1.length : Int) := of_decide_eq_true (by first | (with_reducible assumption) | assumption)
        obtain ⟨ad151, e151, hx151_0⟩ := Kd.at_int HR1.out x5_1 p151 q151
        cases e151
        replace p151 := eq_true p151
        replace q151 := eq_true q151
        go_wp2
        repeat (go_quiet (fail); try go_wp2)
        go_ret
        exact ⟨by first | rfl | (simp; done) | (simp [*]; done), by repeat (first | exact Drawn0.refl _ | apply Drawn0.step)⟩
      ·rw [if_neg c6] at H
       exact absurd H (by simp)
     ·rw [if_neg c5] at H
      exact absurd H (by simp)
    ·rw [if_neg c4] at H
     have c4b0 : decide (x5_1 < (l0.length : Int)) = false := decide_eq_false c4
     clear c4
     obtain rfl := Option.some.inj H
     go_wp2
     repeat (go_quiet (fail); try go_wp2)
     go_ret
     exact ⟨by first | rfl | (simp; done) | (simp [*]; done), by repeat (first | exact Drawn0.refl _ | apply Drawn0.step)⟩
 ·rw [if_neg c3] at H
  have c3b0 : ((l0.length : Int) == (l1.length : Int)) = false := beq_eq_false_iff_ne.mpr c3
  have c3b1 : ((l0.length : Int) != (l1.length : Int)) = true := bne_iff_ne.mpr c3
  have c3b2 : (l0.length == l1.length) = false := by first | simpa using c3 | (simp at c3 ⊢; omega)
  obtain rfl := Option.some.inj H
  go_enter Tryd.func16, Tryd.ntmps16
  go_wp2
  repeat (go_quiet (fail); try go_wp2)
  go_ret
  exact ⟨by first | rfl | (simp; done) | (simp [*]; done), by repeat (first | exact Drawn0.refl _ | apply Drawn0.step)⟩

end Go.Proofs.YtfonajakaimnoaaDoor.Lib

namespace Go.Proofs.YtfonajakaimnoaaDoor.Lib
open Go.RowKit Go.Proofs.YtfonajakaimnoaaDoorW.PrintWords Go.Proofs.YtfonajakaimnoaaDoorW.PrintLast Go.Proofs.YtfonajakaimnoaaDoorW.PrintMore
attribute [local go_sem] max2_int min2_int max_two min_two max_three min_three max_four min_four   -- for this text's walks alone
set_option linter.unusedVariables false
set_option linter.unusedSimpArgs false

/-! ### caesuraref0_SameRows: function 83 -/
def caesuraref0_SameRows.l0 : Nat → List (List Int) → List (List Int) → Int → Option (Bool)
 | 0, _, _, _ => none
 | k + 1, x0, x1, x5 => if x5 < (x0.length : Int) then (if 0 ≤ x5 then (if x5 < (x1.length : Int) then ((caesuraref0_SameInts.f k (rd_L1 x0 x5) (rd_L1 x1 x5)).bind fun t154 => (if t154 = true then (caesuraref0_SameRows.l0 k x0 x1 (wrap64 (x5 + 1))) else (some false))) else (none)) else (none)) else (some true)
def caesuraref0_SameRows.f (k : Nat) (l0 : List (List Int)) (l1 : List (List Int)) : Option (Bool) := if (l0.length : Int) = (l1.length : Int) then (caesuraref0_SameRows.l0 k l0 l1 0) else (some false)
theorem caesuraref0_SameRows.mono_l : ∀ k, (∀ y0 y1 y2, LeO (caesuraref0_SameRows.l0 k y0 y1 y2) (caesuraref0_SameRows.l0 (k + 1) y0 y1 y2))
 | 0 => fun _ _ _ r h => by simp [caesuraref0_SameRows.l0] at h
 | k + 1 => by
  have ih0 := caesuraref0_SameRows.mono_l k
  ·intro y0 y1 y2
   unfold caesuraref0_SameRows.l0
   repeat' first
   | (with_reducible exact ih0 _ _ _)
   | (with_reducible exact caesuraref0_SameInts.mono _ _ _)
   | (with_reducible exact LeO.refl _)
   | (with_reducible exact LeO.none _)
   | (with_reducible refine LeO.ite ?_ ?_)
   | (with_reducible refine LeO.bind ?_ (fun _ => ?_))
   | exact ih0 _ _ _
   | exact caesuraref0_SameInts.mono _ _ _
   | exact LeO.none _
   | refine LeO.ite ?_ ?_
   | refine LeO.bind ?_ (fun _ => ?_)
theorem caesuraref0_SameRows.mono : ∀ a0 a1 k, LeO (caesuraref0_SameRows.f k a0 a1) (caesuraref0_SameRows.f (k + 1) a0 a1) := by
 intro a0 a1 k
 have ih0 := caesuraref0_SameRows.mono_l k
 unfold caesuraref0_SameRows.f
 repeat' first
   | (with_reducible exact ih0 _ _ _)
   | (with_reducible exact caesuraref0_SameInts.mono _ _ _)
   | (with_reducible exact LeO.refl _)
   | (with_reducible exact LeO.none _)
   | (with_reducible refine LeO.ite ?_ ?_)
   | (with_reducible refine LeO.bind ?_ (fun _ => ?_))
   | exact ih0 _ _ _
   | exact caesuraref0_SameInts.mono _ _ _
   | exact LeO.none _
   | refine LeO.ite ?_ ?_
   | refine LeO.bind ?_ (fun _ => ?_)
set_option maxHeartbeats 8000000 in
set_option maxRecDepth 100000 in
theorem caesuraref0_SameRows.calls (k : Nat) (A0 : Option Addr) (c0 : Nat) (l0 : List (List Int)) (A1 : Option Addr) (c1 : Nat) (l1 : List (List Int)) (r : Bool) (w : World) (hr0 : Kd.C (Kd.slice 3 (Kd.int .i64)) w A0 l0.length l0) (hc0 : l0.length ≤ c0) (hr1 : Kd.C (Kd.slice 3 (Kd.int .i64)) w A1 l1.length l1) (hc1 : l1.length ≤ c1) (h : caesuraref0_SameRows.f k l0 l1 = some r) :
  Calls Tryd.prog 83 #[.slice A0 l0.length c0, .slice A1 l1.length c1] w fun e w' => e = .returned (.bool r) ∧ Drawn0 w w' := by
 have HR0 := Aside0.mk hr0
 have HC0 := Aside0.mk hc0
 clear hr0 hc0
 have HR1 := Aside0.mk hr1
 have HC1 := Aside0.mk hc1
 clear hr1 hc1
 have H : (if (l0.length : Int) = (l1.length : Int) then (caesuraref0_SameRows.l0 k l0 l1 0) else (some false)) = some r := h
 clear h
 by_cases c3 : (l0.length : Int) = (l1.length : Int)
 ·rw [if_pos c3] at H
  have c3b0 : ((l0.length : Int) == (l1.length : Int)) = true := beq_iff_eq.mpr c3
  have c3b1 : ((l0.length : Int) != (l1.length : Int)) = false := bne_eq_false_iff_eq.mpr c3
  have c3b2 : (l0.length == l1.length) = true := by first | simpa using c3 | (simp at c3 ⊢; omega)
  clear c3
  have H' := Aside0.mk H
  clear H
  go_enter Tryd.func83, Tryd.ntmps83
  go_wp2
  repeat (go_quiet (fail); try go_wp2)
  go_loopg [5] k (fun kq v5 w' => ∃ (x5_1 : Int), v5 = .int .i64 x5_1 ∧ Aside0 (caesuraref0_SameRows.l0 kq l0 l1 x5_1 = some r) ∧ Aside0 (kq ≤ k) ∧ Drawn0 w w')
  case atStart => exact ⟨(0), (by first | rfl | (simp; done) | (simp [*]; done)), H', ⟨Nat.le_refl _⟩, by repeat (first | exact Drawn0.refl _ | apply Drawn0.step)⟩
  case round =>
   clear H'
   try clear c1
   try clear p2
   try clear c3
   try clear c3b0
   try clear c3b1
   try clear c3b2
   obtain ⟨x5_1, rfl, HA, HK1, ⟨m1, rfl⟩⟩ := hrel
   cases gk with
   | zero => exact absurd HA.out (by simp [caesuraref0_SameRows.l0])
   | succ k1 =>
    have H := HA.out
    clear HA
    simp only [caesuraref0_SameRows.l0] at H
    by_cases c4 : x5_1 < (l0.length : Int)
    ·rw [if_pos c4] at H
     have c4b0 : decide (x5_1 < (l0.length : Int)) = true := decide_eq_true c4
     clear c4
     by_cases c5 : 0 ≤ x5_1
     ·rw [if_pos c5] at H
      have c5b0 : decide (0 ≤ x5_1) = true := decide_eq_true c5
      clear c5
      by_cases c6 : x5_1 < (l1.length : Int)
      ·rw [if_pos c6] at H
       have c6b0 : decide (x5_1 < (l1.length : Int)) = true := decide_eq_true c6
       clear c6
       replace H := Option.bind_eq_some_iff.mp H
       obtain ⟨t154, A70, H⟩ := H
       replace H : (if t154 = true then (caesuraref0_SameRows.l0 k1 l0 l1 (wrap64 (x5_1 + 1))) else (some false)) = some r := H
       have A7 := Aside0.mk A70
       clear A70
       by_cases c8 : t154 = true
       ·subst c8
        have H1 : (caesuraref0_SameRows.l0 k1 l0 l1 (wrap64 (x5_1 + 1))) = some r := by rw [if_pos rfl] at H; exact H
        clear H
        have H := H1
        clear H1
        have H' := Aside0.mk H
        clear H
        have p152 : 0 ≤ (x5_1 : Int) := of_decide_eq_true (by first | (with_reducible assumption) | assumption)
        have q152 : x5_1 < (l0.length : Int) := of_decide_eq_true (by first | (with_reducible assumption) | assumption)
        obtain ⟨ad152, A152_0, c152_0, e152, hx152_0, hl152_0, hi152_0⟩ := at_L1 HR0.out x5_1 p152 q152
        cases e152
        have HR152_0 := Aside0.mk hi152_0
        have HC152_0 := Aside0.mk hl152_0
        clear hi152_0 hl152_0
        replace p152 := eq_true p152
        replace q152 := eq_true q152
        have p153 : 0 ≤ (x5_1 : Int) := of_decide_eq_true (by first | (with_reducible assumption) | assumption)
        have q153 : x5_1 < (l1.length : Int) := of_decide_eq_true (by first | (with_reducible assumption) | assumption)
        obtain ⟨ad153, A153_0, c153_0, e153, hx153_0, hl153_0, hi153_0⟩ := at_L1 HR1.out x5_1 p153 q153
        cases e153
        have HR153_0 := Aside0.mk hi153_0
        have HC153_0 := Aside0.mk hl153_0
        clear hi153_0 hl153_0
        replace p153 := eq_true p153
        replace q153 := eq_true q153
        go_wp2_with (first | (go_at_call 16; (with_reducible refine (caesuraref0_SameInts.calls k1 _ _ (rd_L1 l0 x5_1) _ _ (rd_L1 l1 x5_1) true _ ?side1 ?side2 ?side3 ?side4 A7.out).mono ?_); (case side1 => repeat (first | exact HR152_0.out | (with_reducible refine Kd.C_alloc ?_ _) | (with_reducible refine Kd.C_drewN ?_ _) | (with_reducible refine Kd.C_drew ?_))); (case side2 => exact HC152_0.out); (case side3 => repeat (first | exact HR153_0.out | (with_reducible refine Kd.C_alloc ?_ _) | (with_reducible refine Kd.C_drewN ?_ _) | (with_reducible refine Kd.C_drew ?_))); (case side4 => exact HC153_0.out); rintro e w' ⟨rfl, ⟨nd, rfl⟩⟩; (try first | exact ⟨rfl, _, World.drewN_drewN _ _ _⟩ | exact ⟨rfl, _, Eq.trans (World.drewN_drewN _ _ _) (congrArg (World.drewN _) (Nat.add_assoc _ _ _))⟩)))
        repeat (go_quiet (first | (go_at_call 16; (with_reducible refine (caesuraref0_SameInts.calls k1 _ _ (rd_L1 l0 x5_1) _ _ (rd_L1 l1 x5_1) true _ ?side1 ?side2 ?side3 ?side4 A7.out).mono ?_); (case side1 => repeat (first | exact HR152_0.out | (with_reducible refine Kd.C_alloc ?_ _) | (with_reducible refine Kd.C_drewN ?_ _) | (with_reducible refine Kd.C_drew ?_))); (case side2 => exact HC152_0.out); (case side3 => repeat (first | exact HR153_0.out | (with_reducible refine Kd.C_alloc ?_ _) | (with_reducible refine Kd.C_drewN ?_ _) | (with_reducible refine Kd.C_drew ?_))); (case side4 => exact HC153_0.out); rintro e w' ⟨rfl, ⟨nd, rfl⟩⟩; (try first | exact ⟨rfl, _, World.drewN_drewN _ _ _⟩ | exact ⟨rfl, _, Eq.trans (World.drewN_drewN _ _ _) (congrArg (World.drewN _) (Nat.add_assoc _ _ _))⟩))); try go_wp2_with (first | (go_at_call 16; (with_reducible refine (caesuraref0_SameInts.calls k1 _ _ (rd_L1 l0 x5_1) _ _ (rd_L1 l1 x5_1) true _ ?side1 ?side2 ?side3 ?side4 A7.out).mono ?_); (case side1 => repeat (first | exact HR152_0.out | (with_reducible refine Kd.C_alloc ?_ _) | (with_reducible refine Kd.C_drewN ?_ _) | (with_reducible refine Kd.C_drew ?_))); (case side2 => exact HC152_0.out); (case side3 => repeat (first | exact HR153_0.out | (with_reducible refine Kd.C_alloc ?_ _) | (with_reducible refine Kd.C_drewN ?_ _) | (with_reducible refine Kd.C_drew ?_))); (case side4 => exact HC153_0.out); rintro e w' ⟨rfl, ⟨nd, rfl⟩⟩; (try first | exact ⟨rfl, _, World.drewN_drewN _ _ _⟩ | exact ⟨rfl, _, Eq.trans (World.drewN_drewN _ _ _) (congrArg (World.drewN _) (Nat.add_assoc _ _ _))⟩))))
        go_roundg k1
        case measure => have := HK1.out; omega
        case rel => exact ⟨(wrap64 (x5_1 + 1)), (by first | rfl | (simp; done) | (simp [*]; done)), H', ⟨by have := HK1.out; omega⟩, by repeat (first | exact Drawn0.refl _ | apply Drawn0.step)⟩
       ·replace c8 := Bool.eq_false_iff.mpr c8
        subst c8
        have H1 : (some false) = some r := by rw [if_neg (show ¬ (false = true) by decide)] at H; exact H
        clear H
        have H := H1
        clear H1
        obtain rfl := Option.some.inj H
        have p152 : 0 ≤ (x5_1 : Int) := of_decide_eq_true (by first | (with_reducible assumption) | assumption)
        have q152 : x5_1 < (l0.length : Int) := of_decide_eq_true (by first | (with_reducible assumption) | assumption)
        obtain ⟨ad152, A152_0, c152_0, e152, hx152_0, hl152_0, hi152_0⟩ := at_L1 HR0.out x5_1 p152 q152
        cases e152
        have HR152_0 := Aside0.mk hi152_0
        have HC152_0 := Aside0.mk hl152_0
        clear hi152_0 hl152_0
        replace p152 := eq_true p152
        replace q152 := eq_true q152
        have p153 : 0 ≤ (x5_1 : Int) := of_decide_eq_true (by first | (with_reducible assumption) | assumption)
        have q153 : x5_1 < (l1.length : Int) := of_decide_eq_true (by first | (with_reducible assumption) | assumption)
        obtain ⟨ad153, A153_0, c153_0, e153, hx153_0, hl153_0, hi153_0⟩ := at_L1 HR1.out x5_1 p153 q153
        cases e153
        have HR153_0 := Aside0.mk hi153_0
        have HC153_0 := Aside0.mk hl153_0
        clear hi153_0 hl153_0
        replace p153 := eq_true p153
        replace q153 := eq_true q153
        go_wp2_with (first | (go_at_call 16; (with_reducible refine (caesuraref0_SameInts.calls k1 _ _ (rd_L1 l0 x5_1) _ _ (rd_L1 l1 x5_1) false _ ?side1 ?side2 ?side3 ?side4 A7.out).mono ?_); (case side1 => repeat (first | exact HR152_0.out | (with_reducible refine Kd.C_alloc ?_ _) | (with_reducible refine Kd.C_drewN ?_ _) | (with_reducible refine Kd.C_drew ?_))); (case side2 => exact HC152_0.out); (case side3 => repeat (first | exact HR153_0.out | (with_reducible refine Kd.C_alloc ?_ _) | (with_reducible refine Kd.C_drewN ?_ _) | (with_reducible refine Kd.C_drew ?_))); (case side4 => exact HC153_0.out); rintro e w' ⟨rfl, ⟨nd, rfl⟩⟩; (try first | exact ⟨rfl, _, World.drewN_drewN _ _ _⟩ | exact ⟨rfl, _, Eq.trans (World.drewN_drewN _ _ _) (congrArg (World.drewN _) (Nat.add_assoc _ _ _))⟩)))
        repeat (go_quiet (first | (go_at_call 16; (with_reducible refine (caesuraref0_SameInts.calls k1 _ _ (rd_L1 l0 x5_1) _ _ (rd_L1 l1 x5_1) false _ ?side1 ?side2 ?side3 ?side4 A7.out).mono ?_); (case side1 => repeat (first | exact HR152_0.out | (with_reducible refine Kd.C_alloc ?_ _) | (with_reducible refine Kd.C_drewN ?_ _) | (with_reducible refine Kd.C_drew ?_))); (case side2 => exact HC152_0.out); (case side3 => repeat (first | exact HR153_0.out | (with_reducible refine Kd.C_alloc ?_ _) | (with_reducible refine Kd.C_drewN ?_ _) | (with_reducible refine Kd.C_drew ?_))); (case side4 => exact HC153_0.out); rintro e w' ⟨rfl, ⟨nd, rfl⟩⟩; (try first | exact ⟨rfl, _, World.drewN_drewN _ _ _⟩ | exact ⟨rfl, _, Eq.trans (World.drewN_drewN _ _ _) (congrArg (World.drewN _) (Nat.add_assoc _ _ _))⟩))); try go_wp2_with (first | (go_at_call 16; (with_reducible refine (caesuraref0_SameInts.calls k1 _ _ (rd_L1 l0 x5_1) _ _ (rd_L1 l1 x5_1) false _ ?side1 ?side2 ?side3 ?side4 A7.out).mono ?_); (case side1 => repeat (first | exact HR152_0.out | (with_reducible refine Kd.C_alloc ?_ _) | (with_reducible refine Kd.C_drewN ?_ _) | (with_reducible refine Kd.C_drew ?_))); (case side2 => exact HC152_0.out); (case side3 => repeat (first | exact HR153_0.out | (with_reducible refine Kd.C_alloc ?_ _) | (with_reducible refine Kd.C_drewN ?_ _) | (with_reducible refine Kd.C_drew ?_))); (case side4 => exact HC153_0.out); rintro e w' ⟨rfl, ⟨nd, rfl⟩⟩; (try first | exact ⟨rfl, _, World.drewN_drewN _ _ _⟩ | exact ⟨rfl, _, Eq.trans (World.drewN_drewN _ _ _) (congrArg (World.drewN _) (Nat.add_assoc _ _ _))⟩))))
        go_ret
        exact ⟨by first | rfl | (simp; done) | (simp [*]; done), by repeat (first | exact Drawn0.refl _ | apply Drawn0.step)⟩
      ·rw [if_neg c6] at H
       exact absurd H (by simp)
     ·rw [if_neg c5] at H
      exact absurd H (by simp)
    ·rw [if_neg c4] at H
     have c4b0 : decide (x5_1 < (l0.length : Int)) = false := decide_eq_false c4
     clear c4
     obtain rfl := Option.some.inj H
     go_wp2
     repeat (go_quiet (fail); try go_wp2)
     go_ret
     exact ⟨by first | rfl | (simp; done) | (simp [*]; done), by repeat (first | exact Drawn0.refl _ | apply Drawn0.step)⟩
 ·rw [if_neg c3] at H
  have c3b0 : ((l0.length : Int) == (l1.length : Int)) = false := beq_eq_false_iff_ne.mpr c3
  have c3b1 : ((l0.length : Int) != (l1.length : Int)) = true := bne_iff_ne.mpr c3
  have c3b2 : (l0.length == l1.length) = false := by first | simpa using c3 | (simp at c3 ⊢; omega)
  obtain rfl := Option.some.inj H
  go_enter Tryd.func83, Tryd.ntmps83
  go_wp2
  repeat (go_quiet (fail); try go_wp2)
  go_ret
  exact ⟨by first | rfl | (simp; done) | (simp [*]; done), by repeat (first | exact Drawn0.refl _ | apply Drawn0.step)⟩

end Go.Proofs.YtfonajakaimnoaaDoor.Lib
