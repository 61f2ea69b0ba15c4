/- Part of a proof: texts of one seat, one behind the other. -/
import Derived.Test.YtfonajakaimnoaaDoorPS1
import Derived.Test.YtfonajakaimnoaaDoorPS2
import Derived.Test.YtfonajakaimnoaaDoorRows
import Derived.LaidLaws
import Derived.LaidEql
import Derived.WideLaws

namespace Go.Proofs.YtfonajakaimnoaaDoor.Lib
open Go.RowKit Go.Proofs.YtfonajakaimnoaaDoorW.PrintWords Go.Proofs.YtfonajakaimnoaaDoorW.PrintLast Go.Proofs.YtfonajakaimnoaaDoorW.PrintMore
attribute [local go_sem] max2_int min2_int max_two min_two max_three min_three max_four min_four   -- for this text's walks alone
set_option linter.unusedVariables false
set_option linter.unusedSimpArgs false
mutual
def pair_Decide.j0 : Nat → List Int → Bool → Int → List (List Int) → List (List Int) → Int → List (List Int) → List (List Int) → List Bool → Bool → Option (List Int × Int)
 | 0, _, _, _, _, _, _, _, _, _, _ => none
 | k + 1, x1, x25, x571000, x571001, x571002, x571003, x571004, x571005, x571006, x571007 => if x25 = true then (some (([] : List Int), 1)) else ((machine_Run.f k x571000 x571001 x571002 x1).bind fun bt574 => (if bt574.2 = 0 then ((some x1).bind fun t578 => ((slices_Reverse_int_int.f k t578).bind fun t581 => ((machine_Run.f k x571003 x571004 x571005 t581).bind fun bt582 => (if bt582.2 = 0 then (pair_Decide.l0 k x1 bt574.1 bt582.1 ([] : List Int) 1 x571000 x571001 x571002 x571003 x571004 x571005 x571006 x571007) else (some (([] : List Int), bt582.2)))))) else (some (([] : List Int), bt574.2))))
def pair_Decide.l0 : Nat → List Int → List Int → List Int → List Int → Int → Int → List (List Int) → List (List Int) → Int → List (List Int) → List (List Int) → List Bool → Bool → Option (List Int × Int)
 | 0, _, _, _, _, _, _, _, _, _, _, _, _, _ => none
 | k + 1, x1, x8, x11, x12, x13, x571000, x571001, x571002, x571003, x571004, x571005, x571006, x571007 => if x13 < (x1.length : Int) then (if 0 ≤ x13 then (if x13 < (x8.length : Int) then (if 0 ≤ (rd x8 x13) then (if (rd x8 x13) < (x571002.length : Int) then (if 0 ≤ (wrap64 ((x1.length : Int) - x13)) then (if (wrap64 ((x1.length : Int) - x13)) < (x11.length : Int) then (if 0 ≤ (rd x11 (wrap64 ((x1.length : Int) - x13))) then (if (rd x11 (wrap64 ((x1.length : Int) - x13))) < (x571005.length : Int) then ((pair_both.f k (rd_L1 x571002 (rd x8 x13)) (rd_L1 x571005 (rd x11 (wrap64 ((x1.length : Int) - x13))))).bind fun t590 => (if x12.length < 17592186044416 then (pair_Decide.l0 k x1 x8 x11 (x12 ++ [t590]) (wrap64 (x13 + 1)) x571000 x571001 x571002 x571003 x571004 x571005 x571006 x571007) else (none))) else (none)) else (none)) else (none)) else (none)) else (none)) else (none)) else (none)) else (none)) else (some (x12, 0))
end
def pair_Decide.f (k : Nat) (a0_0 : Int) (l0_1 : List (List Int)) (l0_2 : List (List Int)) (a0_3 : Int) (l0_4 : List (List Int)) (l0_5 : List (List Int)) (l0_6 : List Bool) (a0_7 : Bool) (l1 : List Int) : Option (List Int × Int) := (pair_symbols.f a0_0 l0_1 l0_2 a0_3 l0_4 l0_5 l0_6 a0_7).bind fun t571 => ((pair_Check.f k a0_0 l0_1 l0_2 a0_3 l0_4 l0_5 l0_6 a0_7 t571).bind fun t572 => (if t572 = 0 then ((some (l1.any (Go.Proofs.YtfonajakaimnoaaDoor.C14.wrongI t571))).bind fun t573 => (pair_Decide.j0 k l1 t573 a0_0 l0_1 l0_2 a0_3 l0_4 l0_5 l0_6 a0_7)) else (pair_Decide.j0 k l1 true a0_0 l0_1 l0_2 a0_3 l0_4 l0_5 l0_6 a0_7)))
def pair_Decide.T17 : Bool × List (List Nat × List Nat) := (true, [([], []), ([], []), ([1], [1]), ([2], [2]), ([], []), ([], []), ([4, 5], [4, 5]), ([6], [6]), ([3, 7], [3, 7]), ([8], [8]), ([], []), ([10], [10]), ([11], [11]), ([], []), ([], []), ([14], [14]), ([], []), ([15, 16], [15, 16]), ([13, 17], [13, 17]), ([18], [18]), ([12, 19], [12, 19]), ([20], [20]), ([9, 21], [9, 21]), ([22], [22]), ([0, 23, 22], [0, 23]), ([24, 24, 0, 1, 2, 3, 4, 5, 6, 7, 8, 9, 10, 11, 12, 13, 14, 15, 16, 17, 18, 19, 20, 21, 22, 23, 24], [0, 24])])
def pair_Decide.B17 : List Nat := [0, 0, 2, 6, 0, 0, 48, 112, 254, 510, 0, 1024, 3072, 0, 0, 16384, 0, 114688, 253952, 516096, 1047552, 2096128, 4194302, 8388606, 16777215, 33554431]
theorem pair_Decide.tab17 : rtab .any (opsOf Tryd.f39 17) = pair_Decide.T17 := by kernel_rfl
theorem pair_Decide.bits17 : waitsOk pair_Decide.T17.2 pair_Decide.B17 = true := by kernel_rfl
set_option maxHeartbeats 8000000 in
set_option maxRecDepth 100000 in
theorem pair_Decide.calls (k : Nat) (a0_0 : Int) (A0_1 : Option Addr) (c0_1 : Nat) (l0_1 : List (List Int)) (A0_2 : Option Addr) (c0_2 : Nat) (l0_2 : List (List Int)) (a0_3 : Int) (A0_4 : Option Addr) (c0_4 : Nat) (l0_4 : List (List Int)) (A0_5 : Option Addr) (c0_5 : Nat) (l0_5 : List (List Int)) (A0_6 : Option Addr) (c0_6 : Nat) (l0_6 : List Bool) (a0_7 : Bool) (A1 : Option Addr) (c1 : Nat) (l1 : List Int) (r1 : List Int) (r2 : Int) (tE : TypeId) (pE : Value) (w : World) (hA : w.cell? ⟨0, 0, none⟩ = some (.iface tE pE)) (hl1 : l1.length ≤ 17592186043904) (hr0_1 : Kd.C (Kd.slice 3 (Kd.int .i64)) w A0_1 l0_1.length l0_1) (hc0_1 : l0_1.length ≤ c0_1) (hr0_2 : Kd.C (Kd.slice 3 (Kd.int .i64)) w A0_2 l0_2.length l0_2) (hc0_2 : l0_2.length ≤ c0_2) (hr0_4 : Kd.C (Kd.slice 3 (Kd.int .i64)) w A0_4 l0_4.length l0_4) (hc0_4 : l0_4.length ≤ c0_4) (hr0_5 : Kd.C (Kd.slice 3 (Kd.int .i64)) w A0_5 l0_5.length l0_5) (hc0_5 : l0_5.length ≤ c0_5) (hr0_6 : Kd.C Kd.bool w A0_6 l0_6.length l0_6) (hc0_6 : l0_6.length ≤ c0_6) (hr1 : Kd.C (Kd.int .i64) w A1 l1.length l1) (hc1 : l1.length ≤ c1) (h : pair_Decide.f k a0_0 l0_1 l0_2 a0_3 l0_4 l0_5 l0_6 a0_7 l1 = some (r1, r2)) :
  Calls Tryd.prog 39 #[.agg #[.int .i64 a0_0, .slice A0_1 l0_1.length c0_1, .slice A0_2 l0_2.length c0_2, .int .i64 a0_3, .slice A0_4 l0_4.length c0_4, .slice A0_5 l0_5.length c0_5, .slice A0_6 l0_6.length c0_6, .bool a0_7], .slice A1 l1.length c1] w fun e w' => ∃ v0_ : Value, e = .returned (.tuple #[v0_, errI (.iface tE pE) r2]) ∧ Kd.R (Kd.int .i64) 3 w' w.heap.size (fun _ => True) v0_ r1 ∧ Below w.heap.size w w' := by
 have HAll : Aside0 (∀ W, Below w.heap.size w W → W.cell? ⟨0, 0, none⟩ = some (.iface tE pE)) := ⟨fun W hb => pw_cell_below hb hA⟩
 have HL1 := Aside0.mk hl1
 clear hA hl1
 have hneq := fun W => run_neq_held_nil (P := Tryd.prog) (w := W) 30 tE pE (by kernel_rfl)
 have hu30 := Tryd.underlying30
 have hu60 := Tryd.underlying60
 have hu24 := Tryd.underlying24
 have HR0_1 := Aside0.mk hr0_1
 have HC0_1 := Aside0.mk hc0_1
 clear hr0_1 hc0_1
 have HR0_2 := Aside0.mk hr0_2
 have HC0_2 := Aside0.mk hc0_2
 clear hr0_2 hc0_2
 have HR0_4 := Aside0.mk hr0_4
 have HC0_4 := Aside0.mk hc0_4
 clear hr0_4 hc0_4
 have HR0_5 := Aside0.mk hr0_5
 have HC0_5 := Aside0.mk hc0_5
 clear hr0_5 hc0_5
 have HR0_6 := Aside0.mk hr0_6
 have HC0_6 := Aside0.mk hc0_6
 clear hr0_6 hc0_6
 have HR1 := Aside0.mk hr1
 have HC1 := Aside0.mk hc1
 clear hr1 hc1
 have HB := Aside0.mk (Below.refl w.heap.size w)
 have H : ((pair_symbols.f a0_0 l0_1 l0_2 a0_3 l0_4 l0_5 l0_6 a0_7).bind fun t571 => ((pair_Check.f k a0_0 l0_1 l0_2 a0_3 l0_4 l0_5 l0_6 a0_7 t571).bind fun t572 => (if t572 = 0 then ((some (l1.any (Go.Proofs.YtfonajakaimnoaaDoor.C14.wrongI t571))).bind fun t573 => (pair_Decide.j0 k l1 t573 a0_0 l0_1 l0_2 a0_3 l0_4 l0_5 l0_6 a0_7)) else (pair_Decide.j0 k l1 true a0_0 l0_1 l0_2 a0_3 l0_4 l0_5 l0_6 a0_7)))) = some (r1, r2) := h
 clear h
 replace H := Option.bind_eq_some_iff.mp H
 obtain ⟨t571, A30, H⟩ := H
 replace H : ((pair_Check.f k a0_0 l0_1 l0_2 a0_3 l0_4 l0_5 l0_6 a0_7 t571).bind fun t572 => (if t572 = 0 then ((some (l1.any (Go.Proofs.YtfonajakaimnoaaDoor.C14.wrongI t571))).bind fun t573 => (pair_Decide.j0 k l1 t573 a0_0 l0_1 l0_2 a0_3 l0_4 l0_5 l0_6 a0_7)) else (pair_Decide.j0 k l1 true a0_0 l0_1 l0_2 a0_3 l0_4 l0_5 l0_6 a0_7))) = some (r1, r2) := H
 have A3 := Aside0.mk A30
 clear A30
 have HC4 := Aside0.mk H
 clear H
 go_enter Tryd.func39, Tryd.ntmps39
 go_upto_region 3 with (first | ((with_reducible refine gate_dst (N := 2) rfl ?_); refine box_event ?hg (N := 2) ?hd (cs := #[.int .i64 a0_0, .slice A0_1 l0_1.length c0_1, .slice A0_2 l0_2.length c0_2, .int .i64 a0_3, .slice A0_4 l0_4.length c0_4, .slice A0_5 l0_5.length c0_5, .slice A0_6 l0_6.length c0_6, .bool a0_7]) (t := 60) ?hr ?_; (case hd => rfl); (case hg => rfl); (case hr => first | (go_simp; done) | (go_simp; rfl)); intro gb570 hg w5 hbox hb; have n0_ := Aside0.mk (below_step (by repeat (first | (with_reducible first | exact HB.out | apply below_alloc | apply pw_below_drewN | apply below_drew1) | exact HB.out)) hb); have n1_ := Aside0.mk (hbox); have n2_ := Aside0.mk ((by rw [hg]; exact (below_size (by repeat (first | (with_reducible first | exact HB.out | apply below_alloc | apply pw_below_drewN | apply below_drew1) | exact HB.out))) : w.heap.size ≤ gb570)); have n3_ := Aside0.mk ((by rw [hg]; exact (below_size (by repeat (first | (with_reducible first | exact HB.out | apply below_alloc | apply pw_below_drewN | apply below_drew1) | exact HB.out))) : w.heap.size ≤ gb570)); clear HB; have HB := n0_; have BK570 := n1_; have GW570 := n2_; have GE570 := n3_; clear n0_ n1_ n2_ n3_; clear hb hbox hg; have hcz6_0 : w5.cell? ⟨gb570, 0, none⟩ = some (.int .i64 a0_0) := (blk_cell BK570.out 0).trans rfl; have hcz6_1 : w5.cell? ⟨gb570, 1, none⟩ = some (.slice A0_1 l0_1.length c0_1) := (blk_cell BK570.out 1).trans rfl; have hcz6_2 : w5.cell? ⟨gb570, 2, none⟩ = some (.slice A0_2 l0_2.length c0_2) := (blk_cell BK570.out 2).trans rfl; have hcz6_3 : w5.cell? ⟨gb570, 3, none⟩ = some (.int .i64 a0_3) := (blk_cell BK570.out 3).trans rfl; have hcz6_4 : w5.cell? ⟨gb570, 4, none⟩ = some (.slice A0_4 l0_4.length c0_4) := (blk_cell BK570.out 4).trans rfl; have hcz6_5 : w5.cell? ⟨gb570, 5, none⟩ = some (.slice A0_5 l0_5.length c0_5) := (blk_cell BK570.out 5).trans rfl; have hcz6_6 : w5.cell? ⟨gb570, 6, none⟩ = some (.slice A0_6 l0_6.length c0_6) := (blk_cell BK570.out 6).trans rfl; have hcz6_7 : w5.cell? ⟨gb570, 7, none⟩ = some (.bool a0_7) := (blk_cell BK570.out 7).trans rfl; have hfz6_0 := blk_frozen BK570.out 0; have hfz6_1 := blk_frozen BK570.out 1; have hfz6_2 := blk_frozen BK570.out 2; have hfz6_3 := blk_frozen BK570.out 3; have hfz6_4 := blk_frozen BK570.out 4; have hfz6_5 := blk_frozen BK570.out 5; have hfz6_6 := blk_frozen BK570.out 6; have hfz6_7 := blk_frozen BK570.out 7) | ((with_reducible refine gate_callee (f := 92) rfl ?_); refine goesL_ (some 15) rfl rfl Tryd.func92 (by kernel_rfl) rfl #[.agg #[.int .i64 a0_0, .slice A0_1 l0_1.length c0_1, .slice A0_2 l0_2.length c0_2, .int .i64 a0_3, .slice A0_4 l0_4.length c0_4, .slice A0_5 l0_5.length c0_5, .slice A0_6 l0_6.length c0_6, .bool a0_7]] rfl (by (try simp only [List.map_toArray, List.map_cons, List.map_nil]); first | done | rfl | (simp only [List.length_drop, List.length_take]; rfl)) ?_; (with_reducible refine (pair_symbols.calls a0_0 _ _ l0_1 _ _ l0_2 a0_3 _ _ l0_4 _ _ l0_5 _ _ l0_6 a0_7 t571 _ ?side1 ?side2 ?side3 ?side4 ?side5 ?side6 ?side7 ?side8 ?side9 ?side10 A3.out).mono ?_); (case side1 => repeat (first | exact (Kd.C_below HR0_1.out HB.out) | (with_reducible refine Kd.C_alloc ?_ _) | (with_reducible refine Kd.C_drewN ?_ _) | (with_reducible refine Kd.C_drew ?_))); (case side2 => exact HC0_1.out); (case side3 => repeat (first | exact (Kd.C_below HR0_2.out HB.out) | (with_reducible refine Kd.C_alloc ?_ _) | (with_reducible refine Kd.C_drewN ?_ _) | (with_reducible refine Kd.C_drew ?_))); (case side4 => exact HC0_2.out); (case side5 => repeat (first | exact (Kd.C_below HR0_4.out HB.out) | (with_reducible refine Kd.C_alloc ?_ _) | (with_reducible refine Kd.C_drewN ?_ _) | (with_reducible refine Kd.C_drew ?_))); (case side6 => exact HC0_4.out); (case side7 => repeat (first | exact (Kd.C_below HR0_5.out HB.out) | (with_reducible refine Kd.C_alloc ?_ _) | (with_reducible refine Kd.C_drewN ?_ _) | (with_reducible refine Kd.C_drew ?_))); (case side8 => exact HC0_5.out); (case side9 => repeat (first | exact (Kd.C_below HR0_6.out HB.out) | (with_reducible refine Kd.C_alloc ?_ _) | (with_reducible refine Kd.C_drewN ?_ _) | (with_reducible refine Kd.C_drew ?_))); (case side10 => exact HC0_6.out); rintro e w7 ⟨rfl, hb⟩; refine ⟨_, rfl, ?_⟩; have n0_ := Aside0.mk (blk_below (g := gb570) (o := .cells #[.int .i64 a0_0, .slice A0_1 l0_1.length c0_1, .slice A0_2 l0_2.length c0_2, .int .i64 a0_3, .slice A0_4 l0_4.length c0_4, .slice A0_5 l0_5.length c0_5, .slice A0_6 l0_6.length c0_6, .bool a0_7] 60 (0, 0)) (by (with_reducible repeat (first | refine blk_drewN ?_ _ | refine blk_drew ?_ | refine blk_alloc ?_ _)); exact BK570.out) hb); have n1_ := Aside0.mk (below_step (by repeat (first | (with_reducible first | exact HB.out | apply below_alloc | apply pw_below_drewN | apply below_drew1 | refine below_set ?_ GE570.out) | exact HB.out)) hb); clear BK570; clear HB; have BK570 := n0_; have HB := n1_; clear n0_ n1_; (try clear hb); (try clear hb2); (try clear hk); (try clear hi)))
 (try simp only [Act.put, List.setIfInBounds_toArray, List.set_cons_zero, List.set_cons_succ])
 have n0_ := Aside0.mk (blk_alloc BK570.out (.cells #[.int .i64 t571] 3))
 have n1_ := Aside0.mk (below_alloc HB.out (.cells #[.int .i64 t571] 3))
 have HN := Aside0.mk (show (w7.alloc (.cells #[.int .i64 t571] 3)).heap[w7.heap.size]? = some (.cells #[.int .i64 t571] 3 (0, 0)) from heap_alloc_new _ _)
 clear BK570 HB
 have BK570 := n0_
 have HB := n1_
 clear n0_ n1_
 generalize w7.heap.size = bn at HN ⊢
 generalize w7.alloc (.cells #[.int .i64 t571] 3) = wx at BK570 HB HN ⊢
 go_cut [25] (fun v25 wc => ∃ (kq : Nat) (x25_3 : Bool), v25 = .bool x25_3 ∧ Aside0 (pair_Decide.j0 kq l1 x25_3 a0_0 l0_1 l0_2 a0_3 l0_4 l0_5 l0_6 a0_7 = some (r1, r2)) ∧ Aside0 (kq ≤ k) ∧ Aside0 (wc.heap[gb570]? = some (.cells #[.int .i64 a0_0, (.slice A0_1 l0_1.length c0_1), (.slice A0_2 l0_2.length c0_2), .int .i64 a0_3, (.slice A0_4 l0_4.length c0_4), (.slice A0_5 l0_5.length c0_5), (.slice A0_6 l0_6.length c0_6), .bool a0_7] 60 (0, 0))) ∧ Aside0 (Below w.heap.size w wc))
 case first =>
  have H := HC4.out
  clear HC4
  replace H := Option.bind_eq_some_iff.mp H
  obtain ⟨t572, A80, H⟩ := H
  have A8 := Aside0.mk A80
  clear A80
  have hcy_0 : wx.cell? ⟨gb570, 0, none⟩ = some (.int .i64 a0_0) := (blk_cell BK570.out 0).trans rfl
  have hcy_1 : wx.cell? ⟨gb570, 1, none⟩ = some (.slice A0_1 l0_1.length c0_1) := (blk_cell BK570.out 1).trans rfl
  have hcy_2 : wx.cell? ⟨gb570, 2, none⟩ = some (.slice A0_2 l0_2.length c0_2) := (blk_cell BK570.out 2).trans rfl
  have hcy_3 : wx.cell? ⟨gb570, 3, none⟩ = some (.int .i64 a0_3) := (blk_cell BK570.out 3).trans rfl
  have hcy_4 : wx.cell? ⟨gb570, 4, none⟩ = some (.slice A0_4 l0_4.length c0_4) := (blk_cell BK570.out 4).trans rfl
  have hcy_5 : wx.cell? ⟨gb570, 5, none⟩ = some (.slice A0_5 l0_5.length c0_5) := (blk_cell BK570.out 5).trans rfl
  have hcy_6 : wx.cell? ⟨gb570, 6, none⟩ = some (.slice A0_6 l0_6.length c0_6) := (blk_cell BK570.out 6).trans rfl
  have hcy_7 : wx.cell? ⟨gb570, 7, none⟩ = some (.bool a0_7) := (blk_cell BK570.out 7).trans rfl
  have hcy_8 : wx.cell? ⟨bn, 0, none⟩ = some (.int .i64 t571) := (blk_cell HN.out 0).trans rfl
  by_cases c9 : t572 = 0
  ·replace H : (some (l1.any (Go.Proofs.YtfonajakaimnoaaDoor.C14.wrongI t571))).bind (fun t573 => (pair_Decide.j0 k l1 t573 a0_0 l0_1 l0_2 a0_3 l0_4 l0_5 l0_6 a0_7)) = some (r1, r2) := by rw [if_pos c9] at H; exact H
   replace H : pair_Decide.j0 k l1 (l1.any (Go.Proofs.YtfonajakaimnoaaDoor.C14.wrongI t571)) a0_0 l0_1 l0_2 a0_3 l0_4 l0_5 l0_6 a0_7 = some (r1, r2) := H
   have HE572 := Aside0.mk (show errI (.iface tE pE) t572 = .nilIface from if_pos c9)
   clear c9
   have H' := Aside0.mk H
   clear H
   go_wp2_with fail
   refine (pair_Check.calls k a0_0 _ _ l0_1 _ _ l0_2 a0_3 _ _ l0_4 _ _ l0_5 _ _ l0_6 a0_7 t571 t572 tE pE wx (HAll.out _ HB.out) (Kd.C_below HR0_1.out HB.out) HC0_1.out (Kd.C_below HR0_2.out HB.out) HC0_2.out (Kd.C_below HR0_4.out HB.out) HC0_4.out (Kd.C_below HR0_5.out HB.out) HC0_5.out (Kd.C_below HR0_6.out HB.out) HC0_6.out A8.out).mono ?_
   rintro e w8 ⟨he, hb⟩
   rw [HE572.out] at he
   subst he
   have n0_ := Aside0.mk (blk_below BK570.out hb)
   have n1_ := Aside0.mk (below_step HB.out hb)
   have n2_ := Aside0.mk (blk_below HN.out hb)
   clear BK570 HB HN hb hcy_0 hcy_1 hcy_2 hcy_3 hcy_4 hcy_5 hcy_6 hcy_7 hcy_8
   have BK570 := n0_
   have HB := n1_
   have HN := n2_
   clear n0_ n1_ n2_
   go_wp2_with fail
   refine (Go.Proofs.YtfonajakaimnoaaDoor.Fn.containsFunc_int 93 #[.pointer (some ⟨bn, 0, none⟩)] (enters_of Tryd.func93 (by kernel_rfl) rfl) (Go.Proofs.YtfonajakaimnoaaDoor.C14.wrongI t571) A1 c1 l1 w8 (Kd.C_below HR1.out HB.out) (fun W x hb _ => Go.Proofs.YtfonajakaimnoaaDoor.C14.wrongI_calls t571 bn x W ((hb.cell (p := ⟨bn, 0, none⟩) (blk_lt HN.out)).trans ((blk_cell HN.out 0).trans rfl)))).mono ?_
   rintro e w9 ⟨rfl, hb⟩
   have n0_ := Aside0.mk (blk_below BK570.out hb)
   have n1_ := Aside0.mk (below_step HB.out hb)
   clear BK570 HB HN hb
   have BK570 := n0_
   have HB := n1_
   clear n0_ n1_
   generalize l1.any (Go.Proofs.YtfonajakaimnoaaDoor.C14.wrongI t571) = q at H' ⊢
   go_wp2_with fail
   go_meet
   case rel => exact ⟨_, q, rfl, H', ⟨Nat.le_refl _⟩, BK570, HB⟩
  ·replace H : pair_Decide.j0 k l1 true a0_0 l0_1 l0_2 a0_3 l0_4 l0_5 l0_6 a0_7 = some (r1, r2) := by rw [if_neg c9] at H; exact H
   have HE572 := Aside0.mk (show errI (.iface tE pE) t572 = .iface tE pE from if_neg c9)
   clear c9
   have H' := Aside0.mk H
   clear H
   go_wp2_with fail
   refine (pair_Check.calls k a0_0 _ _ l0_1 _ _ l0_2 a0_3 _ _ l0_4 _ _ l0_5 _ _ l0_6 a0_7 t571 t572 tE pE wx (HAll.out _ HB.out) (Kd.C_below HR0_1.out HB.out) HC0_1.out (Kd.C_below HR0_2.out HB.out) HC0_2.out (Kd.C_below HR0_4.out HB.out) HC0_4.out (Kd.C_below HR0_5.out HB.out) HC0_5.out (Kd.C_below HR0_6.out HB.out) HC0_6.out A8.out).mono ?_
   rintro e w8 ⟨he, hb⟩
   rw [HE572.out] at he
   subst he
   have n0_ := Aside0.mk (blk_below BK570.out hb)
   have n1_ := Aside0.mk (below_step HB.out hb)
   clear BK570 HB HN hb hcy_0 hcy_1 hcy_2 hcy_3 hcy_4 hcy_5 hcy_6 hcy_7 hcy_8
   have BK570 := n0_
   have HB := n1_
   clear n0_ n1_
   go_wp2_with fail
   go_meet
   case rel => exact ⟨_, true, rfl, H', ⟨Nat.le_refl _⟩, BK570, HB⟩
 case rest =>
  clear HC4
  try clear c1
  try clear p2
  try clear c3
  try clear c9
  try clear c9b0
  try clear c9b1
  try clear hcz11_0
  try clear hcz11_1
  try clear hcz11_2
  try clear hcz11_3
  try clear hcz11_4
  try clear hcz11_5
  try clear hcz11_6
  try clear hcz11_7
  try clear hcz13_0
  try clear hcz13_1
  try clear hcz13_2
  try clear hcz13_3
  try clear hcz13_4
  try clear hcz13_5
  try clear hcz13_6
  try clear hcz13_7
  try clear hcz6_0
  try clear hcz6_1
  try clear hcz6_2
  try clear hcz6_3
  try clear hcz6_4
  try clear hcz6_5
  try clear hcz6_6
  try clear hcz6_7
  try clear hfz11_0
  try clear hfz11_1
  try clear hfz11_2
  try clear hfz11_3
  try clear hfz11_4
  try clear hfz11_5
  try clear hfz11_6
  try clear hfz11_7
  try clear hfz13_0
  try clear hfz13_1
  try clear hfz13_2
  try clear hfz13_3
  try clear hfz13_4
  try clear hfz13_5
  try clear hfz13_6
  try clear hfz13_7
  try clear hfz6_0
  try clear hfz6_1
  try clear hfz6_2
  try clear hfz6_3
  try clear hfz6_4
  try clear hfz6_5
  try clear hfz6_6
  try clear hfz6_7
  obtain ⟨kq, x25_3, rfl, HA, HJ3, BK570, HB⟩ := hcut
  cases kq with
  | zero => exact absurd HA.out (by simp [pair_Decide.j0])
  | succ kj3 =>
   have H := HA.out
   clear HA
   simp only [pair_Decide.j0] at H
   by_cases c15 : x25_3 = true
   ·subst c15
    have H1 : (some (([] : List Int), 1)) = some (r1, r2) := by rw [if_pos rfl] at H; exact H
    clear H
    have H := H1
    clear H1
    simp only [Option.some.injEq, Prod.mk.injEq] at H
    obtain ⟨rfl, rfl⟩ := H
    have hAq := HAll.out _ HB.out
    go_wp2
    repeat (go_quiet (fail); try go_wp2)
    go_ret2
    exact ⟨_, by first | (rw [HE585.out]; rfl) | (rw [HE577.out]; rfl) | rfl | (simp [errW_none, errW_some] <;> rfl) | (simp [*, errW_none, errW_some] <;> rfl), by first | exact Kd.R_nil _ _ _ _ _ | exact Kd.N_nil _ _ _ _ _ | exact Kd.V_nil _ _ _ _ _ | exact Kd.Q_nil _ _ _ _ _ | exact Kd.S_nil _ _ _ _ _, by repeat (first | (with_reducible first | exact HB.out | apply below_alloc | apply pw_below_drewN | apply below_drew1 | refine below_set ?_ GE570.out) | exact HB.out)⟩
   ·replace c15 := Bool.eq_false_iff.mpr c15
    subst c15
    have H1 : ((machine_Run.f kj3 a0_0 l0_1 l0_2 l1).bind fun bt574 => (if bt574.2 = 0 then ((some l1).bind fun t578 => ((slices_Reverse_int_int.f kj3 t578).bind fun t581 => ((machine_Run.f kj3 a0_3 l0_4 l0_5 t581).bind fun bt582 => (if bt582.2 = 0 then (pair_Decide.l0 kj3 l1 bt574.1 bt582.1 ([] : List Int) 1 a0_0 l0_1 l0_2 a0_3 l0_4 l0_5 l0_6 a0_7) else (some (([] : List Int), bt582.2)))))) else (some (([] : List Int), bt574.2)))) = some (r1, r2) := by rw [if_neg (show ¬ (false = true) by decide)] at H; exact H
    clear H
    have H := H1
    clear H1
    replace H := Option.bind_eq_some_iff.mp H
    obtain ⟨⟨t574, t577⟩, A170, H⟩ := H
    replace H : (if t577 = 0 then ((some l1).bind fun t578 => ((slices_Reverse_int_int.f kj3 t578).bind fun t581 => ((machine_Run.f kj3 a0_3 l0_4 l0_5 t581).bind fun bt582 => (if bt582.2 = 0 then (pair_Decide.l0 kj3 l1 t574 bt582.1 ([] : List Int) 1 a0_0 l0_1 l0_2 a0_3 l0_4 l0_5 l0_6 a0_7) else (some (([] : List Int), bt582.2)))))) else (some (([] : List Int), t577))) = some (r1, r2) := H
    have A17 := Aside0.mk A170
    clear A170
    by_cases c18 : t577 = 0
    ·rw [if_pos c18] at H
     have HE577 := Aside0.mk (show errI (.iface tE pE) t577 = .nilIface from if_pos c18)
     have c18b0 : (t577 == 0) = true := beq_iff_eq.mpr c18
     have c18b1 : (t577 != 0) = false := bne_eq_false_iff_eq.mpr c18
     clear c18
     replace H := Option.bind_eq_some_iff.mp H
     obtain ⟨t578, A190, H⟩ := H
     have HQ578 := Aside0.mk (Option.some.inj A190)
     replace H : ((slices_Reverse_int_int.f kj3 t578).bind fun t581 => ((machine_Run.f kj3 a0_3 l0_4 l0_5 t581).bind fun bt582 => (if bt582.2 = 0 then (pair_Decide.l0 kj3 l1 t574 bt582.1 ([] : List Int) 1 a0_0 l0_1 l0_2 a0_3 l0_4 l0_5 l0_6 a0_7) else (some (([] : List Int), bt582.2))))) = some (r1, r2) := H
     have A19 := Aside0.mk A190
     clear A190
     replace H := Option.bind_eq_some_iff.mp H
     obtain ⟨t581, A200, H⟩ := H
     replace H : ((machine_Run.f kj3 a0_3 l0_4 l0_5 t581).bind fun bt582 => (if bt582.2 = 0 then (pair_Decide.l0 kj3 l1 t574 bt582.1 ([] : List Int) 1 a0_0 l0_1 l0_2 a0_3 l0_4 l0_5 l0_6 a0_7) else (some (([] : List Int), bt582.2)))) = some (r1, r2) := H
     have A20 := Aside0.mk A200
     clear A200
     replace H := Option.bind_eq_some_iff.mp H
     obtain ⟨⟨t582, t585⟩, A210, H⟩ := H
     replace H : (if t585 = 0 then (pair_Decide.l0 kj3 l1 t574 t582 ([] : List Int) 1 a0_0 l0_1 l0_2 a0_3 l0_4 l0_5 l0_6 a0_7) else (some (([] : List Int), t585))) = some (r1, r2) := H
     have A21 := Aside0.mk A210
     clear A210
     by_cases c22 : t585 = 0
     ·rw [if_pos c22] at H
      have HE585 := Aside0.mk (show errI (.iface tE pE) t585 = .nilIface from if_pos c22)
      have c22b0 : (t585 == 0) = true := beq_iff_eq.mpr c22
      have c22b1 : (t585 != 0) = false := bne_eq_false_iff_eq.mpr c22
      clear c22
      have H' := Aside0.mk H
      clear H
      have hcz23_0 : wc.cell? ⟨gb570, 0, none⟩ = some (.int .i64 a0_0) := (blk_cell BK570.out 0).trans rfl
      have hcz23_1 : wc.cell? ⟨gb570, 1, none⟩ = some (.slice A0_1 l0_1.length c0_1) := (blk_cell BK570.out 1).trans rfl
      have hcz23_2 : wc.cell? ⟨gb570, 2, none⟩ = some (.slice A0_2 l0_2.length c0_2) := (blk_cell BK570.out 2).trans rfl
      have hcz23_3 : wc.cell? ⟨gb570, 3, none⟩ = some (.int .i64 a0_3) := (blk_cell BK570.out 3).trans rfl
      have hcz23_4 : wc.cell? ⟨gb570, 4, none⟩ = some (.slice A0_4 l0_4.length c0_4) := (blk_cell BK570.out 4).trans rfl
      have hcz23_5 : wc.cell? ⟨gb570, 5, none⟩ = some (.slice A0_5 l0_5.length c0_5) := (blk_cell BK570.out 5).trans rfl
      have hcz23_6 : wc.cell? ⟨gb570, 6, none⟩ = some (.slice A0_6 l0_6.length c0_6) := (blk_cell BK570.out 6).trans rfl
      have hcz23_7 : wc.cell? ⟨gb570, 7, none⟩ = some (.bool a0_7) := (blk_cell BK570.out 7).trans rfl
      have hfz23_0 := blk_frozen BK570.out 0
      have hfz23_1 := blk_frozen BK570.out 1
      have hfz23_2 := blk_frozen BK570.out 2
      have hfz23_3 := blk_frozen BK570.out 3
      have hfz23_4 := blk_frozen BK570.out 4
      have hfz23_5 := blk_frozen BK570.out 5
      have hfz23_6 := blk_frozen BK570.out 6
      have hfz23_7 := blk_frozen BK570.out 7
      go_wp2_with (first | ((with_reducible refine gate_callee (f := 94) rfl ?_); refine goesL_ (some 31) rfl rfl Tryd.func94 (by kernel_rfl) rfl #[.agg #[.int .i64 a0_0, .slice A0_1 l0_1.length c0_1, .slice A0_2 l0_2.length c0_2], .slice A1 l1.length c1] rfl (by (try simp only [List.map_toArray, List.map_cons, List.map_nil]); first | done | rfl | (simp only [List.length_drop, List.length_take]; rfl)) ?_; (with_reducible refine (machine_Run.calls kj3 a0_0 _ _ l0_1 _ _ l0_2 _ _ l1 t574 t577 (.iface tE pE) _ (HAll.out _ (by repeat (first | (with_reducible first | exact HB.out | apply below_alloc | apply pw_below_drewN | apply below_drew1) | exact HB.out))) (Nat.le_trans HL1.out (by decide)) ?side1 ?side2 ?side3 ?side4 ?side5 ?side6 A17.out).mono ?_); (case side1 => repeat (first | exact (Kd.C_below HR0_1.out HB.out) | (with_reducible refine Kd.C_alloc ?_ _) | (with_reducible refine Kd.C_drewN ?_ _) | (with_reducible refine Kd.C_drew ?_))); (case side2 => exact HC0_1.out); (case side3 => repeat (first | exact (Kd.C_below HR0_2.out HB.out) | (with_reducible refine Kd.C_alloc ?_ _) | (with_reducible refine Kd.C_drewN ?_ _) | (with_reducible refine Kd.C_drew ?_))); (case side4 => exact HC0_2.out); (case side5 => repeat (first | exact (Kd.C_below HR1.out HB.out) | (with_reducible refine Kd.C_alloc ?_ _) | (with_reducible refine Kd.C_drewN ?_ _) | (with_reducible refine Kd.C_drew ?_))); (case side6 => exact HC1.out); rintro e w24 ⟨v575, he, ho0, hb⟩; rw [HE577.out] at he; subst he; refine ⟨_, rfl, ?_⟩; have n0_ := Aside0.mk (Kd.R_lower ho0 (below_size (by repeat (first | (with_reducible first | exact HB.out | apply below_alloc | apply pw_below_drewN | apply below_drew1 | refine below_set ?_ GE570.out) | exact HB.out)))); have n1_ := Aside0.mk (blk_below (g := gb570) (o := .cells #[.int .i64 a0_0, .slice A0_1 l0_1.length c0_1, .slice A0_2 l0_2.length c0_2, .int .i64 a0_3, .slice A0_4 l0_4.length c0_4, .slice A0_5 l0_5.length c0_5, .slice A0_6 l0_6.length c0_6, .bool a0_7] 60 (0, 0)) (by (with_reducible repeat (first | refine blk_drewN ?_ _ | refine blk_drew ?_ | refine blk_alloc ?_ _)); exact BK570.out) hb); have n2_ := Aside0.mk (below_step (by repeat (first | (with_reducible first | exact HB.out | apply below_alloc | apply pw_below_drewN | apply below_drew1 | refine below_set ?_ GE570.out) | exact HB.out)) hb); clear BK570; clear HB; have HO576 := n0_; have BK570 := n1_; have HB := n2_; clear n0_ n1_ n2_; (try clear hb); (try clear hb2); (try clear hk); (try clear hi); (try clear ho0)) | ((with_reducible refine gate_callee (f := 82) rfl ?_); refine goesL_ (some 38) rfl rfl Tryd.func82 (by kernel_rfl) rfl #[.slice A1 l1.length c1] rfl (by (try simp only [List.map_toArray, List.map_cons, List.map_nil]); first | done | rfl | (simp only [List.length_drop, List.length_take]; rfl)) ?_; (with_reducible refine (Go.Proofs.YtfonajakaimnoaaDoor.Fn.clone_calls _ _ l1 _ ?side1 ?side2).mono ?_); (case side1 => repeat (first | exact (Kd.C_below HR1.out HB.out) | (with_reducible refine Kd.C_alloc ?_ _) | (with_reducible refine Kd.C_drewN ?_ _) | (with_reducible refine Kd.C_drew ?_))); (case side2 => exact HL1.out); rintro e w25 ⟨v579, rfl, ho0, hb⟩; rw [HQ578.out] at ho0; refine ⟨_, rfl, ?_⟩; have n0_ := Aside0.mk (Kd.R_elder' (by (with_reducible repeat (first | apply Kd.R_alloc | apply Kd.R_drewN | apply Kd.R_drew)); exact HO576.out) (Kd.R_base ho0) hb); have n1_ := Aside0.mk (Kd.R_lower (Kd.R_new' ho0 (Kd.R_lt (by (with_reducible repeat (first | apply Kd.R_alloc | apply Kd.R_drewN | apply Kd.R_drew)); exact HO576.out))) (below_size (by repeat (first | (with_reducible first | exact HB.out | apply below_alloc | apply pw_below_drewN | apply below_drew1 | refine below_set ?_ GE570.out) | exact HB.out)))); have n2_ := Aside0.mk (blk_below (g := gb570) (o := .cells #[.int .i64 a0_0, .slice A0_1 l0_1.length c0_1, .slice A0_2 l0_2.length c0_2, .int .i64 a0_3, .slice A0_4 l0_4.length c0_4, .slice A0_5 l0_5.length c0_5, .slice A0_6 l0_6.length c0_6, .bool a0_7] 60 (0, 0)) (by (with_reducible repeat (first | refine blk_drewN ?_ _ | refine blk_drew ?_ | refine blk_alloc ?_ _)); exact BK570.out) hb); have n3_ := Aside0.mk (below_step (by repeat (first | (with_reducible first | exact HB.out | apply below_alloc | apply pw_below_drewN | apply below_drew1 | refine below_set ?_ GE570.out) | exact HB.out)) hb); clear HO576; clear BK570; clear HB; have HO576 := n0_; have HO580 := n1_; have BK570 := n2_; have HB := n3_; clear n0_ n1_ n2_ n3_; (try clear hb); (try clear hb2); (try clear hk); (try clear hi); (try clear ho0); obtain ⟨Ao26, co26, eo26⟩ := Kd.R_slice HO580.out; subst eo26) | ((with_reducible refine gate_callee (f := 95) rfl ?_); refine goesL_ (some 40) rfl rfl Tryd.func95 (by kernel_rfl) rfl #[.slice Ao26 t578.length co26] rfl (by (try simp only [List.map_toArray, List.map_cons, List.map_nil]); first | done | rfl | (simp only [List.length_drop, List.length_take]; rfl)) ?_; (with_reducible refine (slices_Reverse_int_int.calls kj3 (fun k_ => some k_ = (.slice Ao26 t578.length co26 : Value).ownBlock) (.slice Ao26 t578.length co26) t578 t581 w _ ?side1 ?side2 A20.out).mono ?_); (case side1 => repeat (first | (with_reducible first | exact HB.out | apply below_alloc | apply pw_below_drewN | apply below_drew1 | refine below_set ?_ GE570.out) | exact HB.out)); (case side2 => exact Kd.R_tight rfl HO580.out); rintro e w27 ⟨rfl, hy0, hb, hkp⟩; refine ⟨_, rfl, ?_⟩; have n0_ := Aside0.mk (blk_kept (by (with_reducible repeat (first | refine blk_drewN ?_ _ | refine blk_drew ?_ | refine blk_alloc ?_ _)); exact BK570.out) hkp (fun hs_ => (fun e_ => (Kd.R_ne HO580.out BK570.out (by decide)) e_) hs_)); have n1_ := Aside0.mk (Kd.R_mono (ok' := fun k_ => some k_ ≠ (.slice Ao26 t578.length co26 : Value).ownBlock) (Kd.R_keptB (HO576.out) hkp (fun k_ hk_ hs_ => (hk_.2) hs_)) (fun k_ hk_ => hk_.1.2)); have n2_ := Aside0.mk (Kd.R_reok rfl hy0 (fun k_ e_ => HO580.out.1 k_ e_)); have n3_ := Aside0.mk (hb); clear BK570; clear HO576; clear HO580; clear HB; have BK570 := n0_; have HO576 := n1_; have HO580 := n2_; have HB := n3_; clear n0_ n1_ n2_ n3_; (try clear hb); (try clear hkp); (try clear hy0); have hcz28_0 : w27.cell? ⟨gb570, 0, none⟩ = some (.int .i64 a0_0) := (blk_cell BK570.out 0).trans rfl; have hcz28_1 : w27.cell? ⟨gb570, 1, none⟩ = some (.slice A0_1 l0_1.length c0_1) := (blk_cell BK570.out 1).trans rfl; have hcz28_2 : w27.cell? ⟨gb570, 2, none⟩ = some (.slice A0_2 l0_2.length c0_2) := (blk_cell BK570.out 2).trans rfl; have hcz28_3 : w27.cell? ⟨gb570, 3, none⟩ = some (.int .i64 a0_3) := (blk_cell BK570.out 3).trans rfl; have hcz28_4 : w27.cell? ⟨gb570, 4, none⟩ = some (.slice A0_4 l0_4.length c0_4) := (blk_cell BK570.out 4).trans rfl; have hcz28_5 : w27.cell? ⟨gb570, 5, none⟩ = some (.slice A0_5 l0_5.length c0_5) := (blk_cell BK570.out 5).trans rfl; have hcz28_6 : w27.cell? ⟨gb570, 6, none⟩ = some (.slice A0_6 l0_6.length c0_6) := (blk_cell BK570.out 6).trans rfl; have hcz28_7 : w27.cell? ⟨gb570, 7, none⟩ = some (.bool a0_7) := (blk_cell BK570.out 7).trans rfl; have hfz28_0 := blk_frozen BK570.out 0; have hfz28_1 := blk_frozen BK570.out 1; have hfz28_2 := blk_frozen BK570.out 2; have hfz28_3 := blk_frozen BK570.out 3; have hfz28_4 := blk_frozen BK570.out 4; have hfz28_5 := blk_frozen BK570.out 5; have hfz28_6 := blk_frozen BK570.out 6; have hfz28_7 := blk_frozen BK570.out 7) | ((with_reducible refine gate_callee (f := 94) rfl ?_); refine goesL_ (some 45) rfl rfl Tryd.func94 (by kernel_rfl) rfl #[.agg #[.int .i64 a0_3, .slice A0_4 l0_4.length c0_4, .slice A0_5 l0_5.length c0_5], .slice Ao26 t581.length co26] rfl (by (try simp only [List.map_toArray, List.map_cons, List.map_nil]); first | done | (rw [show t581.length = t578.length from (Kd.R_reads' HO580.out).1.symm] <;> rfl) | rfl | (simp only [List.length_drop, List.length_take]; rfl)) ?_; (with_reducible refine (machine_Run.calls kj3 a0_3 _ _ l0_4 _ _ l0_5 _ _ t581 t582 t585 (.iface tE pE) _ (HAll.out _ (by repeat (first | (with_reducible first | exact HB.out | apply below_alloc | apply pw_below_drewN | apply below_drew1) | exact HB.out))) (by rw [show t581.length = t578.length from (Kd.R_reads' HO580.out).1.symm, ← HQ578.out]; exact Nat.le_trans HL1.out (by decide)) ?side1 ?side2 ?side3 ?side4 ?side5 ?side6 A21.out).mono ?_); (case side1 => repeat (first | exact (Kd.C_below HR0_4.out HB.out) | (with_reducible refine Kd.C_alloc ?_ _) | (with_reducible refine Kd.C_drewN ?_ _) | (with_reducible refine Kd.C_drew ?_))); (case side2 => exact HC0_4.out); (case side3 => repeat (first | exact (Kd.C_below HR0_5.out HB.out) | (with_reducible refine Kd.C_alloc ?_ _) | (with_reducible refine Kd.C_drewN ?_ _) | (with_reducible refine Kd.C_drew ?_))); (case side4 => exact HC0_5.out); (case side5 => repeat (first | exact (Kd.R_reads' HO580.out).2.2 | (with_reducible refine Kd.C_alloc ?_ _) | (with_reducible refine Kd.C_drewN ?_ _) | (with_reducible refine Kd.C_drew ?_))); (case side6 => rw [show t581.length = t578.length from (Kd.R_reads' HO580.out).1.symm]; exact (Kd.R_reads' HO580.out).2.1); rintro e w29 ⟨v583, he, ho0, hb⟩; rw [HE585.out] at he; subst he; refine ⟨_, rfl, ?_⟩; have n0_ := Aside0.mk (Kd.R_elder' (by (with_reducible repeat (first | apply Kd.R_alloc | apply Kd.R_drewN | apply Kd.R_drew)); exact HO576.out) (Kd.R_base ho0) hb); have n1_ := Aside0.mk (Kd.R_elder' (by (with_reducible repeat (first | apply Kd.R_alloc | apply Kd.R_drewN | apply Kd.R_drew)); exact HO580.out) (Kd.R_base ho0) hb); have n2_ := Aside0.mk (Kd.R_lower (Kd.R_new' (Kd.R_new' ho0 (Kd.R_lt (by (with_reducible repeat (first | apply Kd.R_alloc | apply Kd.R_drewN | apply Kd.R_drew)); exact HO576.out))) (Kd.R_lt (by (with_reducible repeat (first | apply Kd.R_alloc | apply Kd.R_drewN | apply Kd.R_drew)); exact HO580.out))) (below_size (by repeat (first | (with_reducible first | exact HB.out | apply below_alloc | apply pw_below_drewN | apply below_drew1 | refine below_set ?_ GE570.out) | exact HB.out)))); have n3_ := Aside0.mk (blk_below (g := gb570) (o := .cells #[.int .i64 a0_0, .slice A0_1 l0_1.length c0_1, .slice A0_2 l0_2.length c0_2, .int .i64 a0_3, .slice A0_4 l0_4.length c0_4, .slice A0_5 l0_5.length c0_5, .slice A0_6 l0_6.length c0_6, .bool a0_7] 60 (0, 0)) (by (with_reducible repeat (first | refine blk_drewN ?_ _ | refine blk_drew ?_ | refine blk_alloc ?_ _)); exact BK570.out) hb); have n4_ := Aside0.mk (below_step (by repeat (first | (with_reducible first | exact HB.out | apply below_alloc | apply pw_below_drewN | apply below_drew1 | refine below_set ?_ GE570.out) | exact HB.out)) hb); clear HO576; clear HO580; clear BK570; clear HB; have HO576 := n0_; have HO580 := n1_; have HO584 := n2_; have BK570 := n3_; have HB := n4_; clear n0_ n1_ n2_ n3_ n4_; (try clear hb); (try clear hb2); (try clear hk); (try clear hi); (try clear ho0)))
      go_loopg [12, 13] kj3 (fun kq v12 v13 w' => ∃ (x12_2 : List Int) (x13_2 : Int), v13 = .int .i64 x13_2 ∧ Aside0 (pair_Decide.l0 kq l1 t574 t582 x12_2 x13_2 a0_0 l0_1 l0_2 a0_3 l0_4 l0_5 l0_6 a0_7 = some (r1, r2)) ∧ Aside0 (kq ≤ kj3) ∧ Aside0 (Kd.R (Kd.int .i64) 3 w' w.heap.size (fun k_ => some k_ ≠ (v583 : Value).ownBlock ∧ some k_ ≠ (v12 : Value).ownBlock) v575 t574) ∧ Aside0 (Kd.R (Kd.int .i64) 3 w' w.heap.size (fun k_ => some k_ ≠ (v575 : Value).ownBlock ∧ some k_ ≠ (v12 : Value).ownBlock) v583 t582) ∧ Aside0 (Kd.R (Kd.int .i64) 3 w' w.heap.size (fun k_ => some k_ ≠ (v575 : Value).ownBlock ∧ some k_ ≠ (v583 : Value).ownBlock) v12 x12_2) ∧ Aside0 (w'.heap[gb570]? = some (.cells #[.int .i64 a0_0, (.slice A0_1 l0_1.length c0_1), (.slice A0_2 l0_2.length c0_2), .int .i64 a0_3, (.slice A0_4 l0_4.length c0_4), (.slice A0_5 l0_5.length c0_5), (.slice A0_6 l0_6.length c0_6), .bool a0_7] 60 (0, 0))) ∧ Aside0 (Below w.heap.size w w'))
      case atStart => exact ⟨(([] : List Int)), (1), (by first | rfl | (simp; done) | (simp [*]; done)), H', ⟨Nat.le_refl _⟩, ⟨by (with_reducible repeat (first | apply Kd.R_alloc | apply Kd.R_drewN | apply Kd.R_drew)); exact Kd.R_mono HO576.out (fun _ hk => ⟨hk.2, (by simp [Value.ownBlock])⟩)⟩, ⟨by (with_reducible repeat (first | apply Kd.R_alloc | apply Kd.R_drewN | apply Kd.R_drew)); exact Kd.R_mono HO584.out (fun _ hk => ⟨hk.1.2, (by simp [Value.ownBlock])⟩)⟩, ⟨by first | exact Kd.R_nil _ _ _ _ _ | exact Kd.N_nil _ _ _ _ _ | exact Kd.V_nil _ _ _ _ _ | exact Kd.Q_nil _ _ _ _ _ | exact Kd.S_nil _ _ _ _ _⟩, ⟨by (with_reducible repeat (first | refine blk_drewN ?_ _ | refine blk_drew ?_ | refine blk_alloc ?_ _)); exact BK570.out⟩, ⟨by repeat (first | (with_reducible first | exact HB.out | apply below_alloc | apply pw_below_drewN | apply below_drew1 | refine below_set ?_ GE570.out) | exact HB.out)⟩⟩
      case round =>
       clear H'
       try clear c1
       try clear c2
       try clear p2
       try clear c3
       try clear c7
       try clear c9
       try clear c9b0
       try clear c9b1
       try clear c15
       try clear c18
       try clear c18b0
       try clear c18b1
       try clear c22
       try clear c22b0
       try clear c22b1
       try clear hcz11_0
       try clear hcz11_1
       try clear hcz11_2
       try clear hcz11_3
       try clear hcz11_4
       try clear hcz11_5
       try clear hcz11_6
       try clear hcz11_7
       try clear hcz13_0
       try clear hcz13_1
       try clear hcz13_2
       try clear hcz13_3
       try clear hcz13_4
       try clear hcz13_5
       try clear hcz13_6
       try clear hcz13_7
       try clear hcz23_0
       try clear hcz23_1
       try clear hcz23_2
       try clear hcz23_3
       try clear hcz23_4
       try clear hcz23_5
       try clear hcz23_6
       try clear hcz23_7
       try clear hcz28_0
       try clear hcz28_1
       try clear hcz28_2
       try clear hcz28_3
       try clear hcz28_4
       try clear hcz28_5
       try clear hcz28_6
       try clear hcz28_7
       try clear hcz6_0
       try clear hcz6_1
       try clear hcz6_2
       try clear hcz6_3
       try clear hcz6_4
       try clear hcz6_5
       try clear hcz6_6
       try clear hcz6_7
       try clear hfz11_0
       try clear hfz11_1
       try clear hfz11_2
       try clear hfz11_3
       try clear hfz11_4
       try clear hfz11_5
       try clear hfz11_6
       try clear hfz11_7
       try clear hfz13_0
       try clear hfz13_1
       try clear hfz13_2
       try clear hfz13_3
       try clear hfz13_4
       try clear hfz13_5
       try clear hfz13_6
       try clear hfz13_7
       try clear hfz23_0
       try clear hfz23_1
       try clear hfz23_2
       try clear hfz23_3
       try clear hfz23_4
       try clear hfz23_5
       try clear hfz23_6
       try clear hfz23_7
       try clear hfz28_0
       try clear hfz28_1
       try clear hfz28_2
       try clear hfz28_3
       try clear hfz28_4
       try clear hfz28_5
       try clear hfz28_6
       try clear hfz28_7
       try clear hfz6_0
       try clear hfz6_1
       try clear hfz6_2
       try clear hfz6_3
       try clear hfz6_4
       try clear hfz6_5
       try clear hfz6_6
       try clear hfz6_7
       try clear p2
       obtain ⟨x12_2, x13_2, rfl, HA, HK2, HO_8, HO_11, HO_12, BK570, HB⟩ := hrel
       cases gk with
       | zero => exact absurd HA.out (by simp [pair_Decide.l0])
       | succ k2 =>
        have H := HA.out
        clear HA
        simp only [pair_Decide.l0] at H
        by_cases c30 : x13_2 < (l1.length : Int)
        ·rw [if_pos c30] at H
         have c30b0 : decide (x13_2 < (l1.length : Int)) = true := decide_eq_true c30
         clear c30
         by_cases c31 : 0 ≤ x13_2
         ·rw [if_pos c31] at H
          have c31b0 : decide (0 ≤ x13_2) = true := decide_eq_true c31
          clear c31
          by_cases c32 : x13_2 < (t574.length : Int)
          ·rw [if_pos c32] at H
           have c32b0 : decide (x13_2 < (t574.length : Int)) = true := decide_eq_true c32
           clear c32
           by_cases c33 : 0 ≤ (rd t574 x13_2)
           ·rw [if_pos c33] at H
            have c33b0 : decide (0 ≤ (rd t574 x13_2)) = true := decide_eq_true c33
            clear c33
            by_cases c34 : (rd t574 x13_2) < (l0_2.length : Int)
            ·rw [if_pos c34] at H
             have c34b0 : decide ((rd t574 x13_2) < (l0_2.length : Int)) = true := decide_eq_true c34
             clear c34
             obtain ⟨ji35, hji35⟩ : ∃ j_ : Int, (wrap64 ((l1.length : Int) - x13_2)) = j_ := ⟨_, rfl⟩
             replace H : (if 0 ≤ (ji35) then (if (ji35) < (t582.length : Int) then (if 0 ≤ (rd t582 (ji35)) then (if (rd t582 (ji35)) < (l0_5.length : Int) then ((pair_both.f k2 (rd_L1 l0_2 (rd t574 x13_2)) (rd_L1 l0_5 (rd t582 (ji35)))).bind fun t590 => (if x12_2.length < 17592186044416 then (pair_Decide.l0 k2 l1 t574 t582 (x12_2 ++ [t590]) (wrap64 (x13_2 + 1)) a0_0 l0_1 l0_2 a0_3 l0_4 l0_5 l0_6 a0_7) else (none))) else (none)) else (none)) else (none)) else (none)) = some (r1, r2) := by first | (rw [hji35] at H; exact H) | (simp only [hji35] at H ⊢; exact H)
             have hji35w : (IntKind.i64.wrap ((l1.length : Int) - x13_2)) = ji35 := (i64_w _).trans hji35
             by_cases c36 : 0 ≤ (ji35)
             ·rw [if_pos c36] at H
              have c36b0 : decide (0 ≤ (ji35)) = true := decide_eq_true c36
              clear c36
              by_cases c37 : (ji35) < (t582.length : Int)
              ·rw [if_pos c37] at H
               have c37b0 : decide ((ji35) < (t582.length : Int)) = true := decide_eq_true c37
               clear c37
               by_cases c38 : 0 ≤ (rd t582 (ji35))
               ·rw [if_pos c38] at H
                have c38b0 : decide (0 ≤ (rd t582 (ji35))) = true := decide_eq_true c38
                clear c38
                by_cases c39 : (rd t582 (ji35)) < (l0_5.length : Int)
                ·rw [if_pos c39] at H
                 have c39b0 : decide ((rd t582 (ji35)) < (l0_5.length : Int)) = true := decide_eq_true c39
                 clear c39
                 replace H := Option.bind_eq_some_iff.mp H
                 obtain ⟨t590, A400, H⟩ := H
                 replace H : (if x12_2.length < 17592186044416 then (pair_Decide.l0 k2 l1 t574 t582 (x12_2 ++ [t590]) (wrap64 (x13_2 + 1)) a0_0 l0_1 l0_2 a0_3 l0_4 l0_5 l0_6 a0_7) else (none)) = some (r1, r2) := H
                 have A40 := Aside0.mk A400
                 clear A400
                 by_cases c41 : x12_2.length < 17592186044416
                 ·rw [if_pos c41] at H
                  have LMc41 := Aside0.mk c41
                  clear c41
                  obtain ⟨y591, hy591⟩ : ∃ y_ : List Int, y_ = (x12_2 ++ [t590]) := ⟨_, rfl⟩
                  replace H : (pair_Decide.l0 k2 l1 t574 t582 y591 (wrap64 (x13_2 + 1)) a0_0 l0_1 l0_2 a0_3 l0_4 l0_5 l0_6 a0_7) = some (r1, r2) := by first | (rw [hy591]; with_reducible exact H) | (have H2_ := (Option.bind_some _ _).symm.trans H; rw [hy591]; with_reducible exact H2_) | (have H2_ := (Option.bind_some _ _).symm.trans H; with_reducible exact H2_) | with_reducible exact H | (rw [hy591]; exact H) | exact H
                  have Ny591 := Aside0.mk hy591
                  clear hy591
                  have H' := Aside0.mk H
                  clear H
                  try go_wp2
                  have n0_ := Aside0.mk (Kd.R_drew HO_8.out)
                  have n1_ := Aside0.mk (Kd.R_drew HO_11.out)
                  have n2_ := Aside0.mk (Kd.R_drew HO_12.out)
                  have n3_ := Aside0.mk (blk_drew BK570.out)
                  have n4_ := Aside0.mk (below_drew1 HB.out)
                  clear HO_8
                  clear HO_11
                  clear HO_12
                  clear BK570
                  clear HB
                  have HO_8 := n0_
                  have HO_11 := n1_
                  have HO_12 := n2_
                  have BK570 := n3_
                  have HB := n4_
                  clear n0_ n1_ n2_ n3_ n4_
                  obtain ⟨Ao43, co43, eo43⟩ := Kd.R_slice HO_8.out
                  (first | subst eo43 | (injection eo43 with f1_ f2_ f3_; have f4_ := f1_.symm; have f5_ := f3_.symm; clear f1_ f2_ f3_; subst f4_; subst f5_))
                  have p586 : 0 ≤ (x13_2 : Int) := of_decide_eq_true (by first | (with_reducible assumption) | assumption)
                  have q586 : x13_2 < (t574.length : Int) := of_decide_eq_true (by first | (with_reducible assumption) | assumption)
                  obtain ⟨ad586, e586, hx586_0⟩ := Kd.at_int (Kd.R_reads' HO_8.out).2.2 x13_2 p586 q586
                  cases e586
                  replace p586 := eq_true p586
                  replace q586 := eq_true q586
                  have p587 : 0 ≤ ((rd t574 x13_2) : Int) := of_decide_eq_true (by first | (with_reducible assumption) | assumption)
                  have q587 : (rd t574 x13_2) < (l0_2.length : Int) := of_decide_eq_true (by first | (with_reducible assumption) | assumption)
                  obtain ⟨ad587, A587_0, c587_0, e587, hx587_0, hl587_0, hi587_0⟩ := at_L1 HR0_2.out (rd t574 x13_2) p587 q587
                  have hw587_0 := hx587_0
                  cases e587
                  replace hx587_0 := (HB.out.cell (World.block_lt_of_cell? w _ hx587_0)).trans hx587_0
                  have HR587_0 := Aside0.mk hi587_0
                  have HC587_0 := Aside0.mk hl587_0
                  clear hi587_0 hl587_0
                  replace p587 := eq_true p587
                  replace q587 := eq_true q587
                  obtain ⟨Ao44, co44, eo44⟩ := Kd.R_slice HO_11.out
                  (first | subst eo44 | (injection eo44 with f1_ f2_ f3_; have f4_ := f1_.symm; have f5_ := f3_.symm; clear f1_ f2_ f3_; subst f4_; subst f5_))
                  have p588 : 0 ≤ ((ji35) : Int) := of_decide_eq_true (by first | (with_reducible assumption) | assumption)
                  have q588 : (ji35) < (t582.length : Int) := of_decide_eq_true (by first | (with_reducible assumption) | assumption)
                  obtain ⟨ad588, e588, hx588_0⟩ := Kd.at_int (Kd.R_reads' HO_11.out).2.2 (ji35) p588 q588
                  cases e588
                  replace p588 := eq_true p588
                  replace q588 := eq_true q588
                  have p589 : 0 ≤ ((rd t582 (ji35)) : Int) := of_decide_eq_true (by first | (with_reducible assumption) | assumption)
                  have q589 : (rd t582 (ji35)) < (l0_5.length : Int) := of_decide_eq_true (by first | (with_reducible assumption) | assumption)
                  obtain ⟨ad589, A589_0, c589_0, e589, hx589_0, hl589_0, hi589_0⟩ := at_L1 HR0_5.out (rd t582 (ji35)) p589 q589
                  have hw589_0 := hx589_0
                  cases e589
                  replace hx589_0 := (HB.out.cell (World.block_lt_of_cell? w _ hx589_0)).trans hx589_0
                  have HR589_0 := Aside0.mk hi589_0
                  have HC589_0 := Aside0.mk hl589_0
                  clear hi589_0 hl589_0
                  replace p589 := eq_true p589
                  replace q589 := eq_true q589
                  refine start_ (n := 26) (S := fun w' => w'.cell? ⟨gb570, 0, none⟩ = some (.int .i64 a0_0) ∧ w'.cell? ⟨gb570, 1, none⟩ = some (.slice A0_1 l0_1.length c0_1) ∧ w'.cell? ⟨gb570, 2, none⟩ = some (.slice (some ad587) l0_2.length c0_2) ∧ w'.cell? ⟨gb570, 3, none⟩ = some (.int .i64 a0_3) ∧ w'.cell? ⟨gb570, 4, none⟩ = some (.slice A0_4 l0_4.length c0_4) ∧ w'.cell? ⟨gb570, 5, none⟩ = some (.slice (some ad589) l0_5.length c0_5) ∧ w'.cell? ⟨gb570, 6, none⟩ = some (.slice A0_6 l0_6.length c0_6) ∧ w'.cell? ⟨gb570, 7, none⟩ = some (.bool a0_7) ∧ w'.cell? (ad586.add (x13_2).toNat) = some (.int .i64 (rd t574 x13_2)) ∧ w'.cell? (ad587.add ((rd t574 x13_2)).toNat) = some (.slice A587_0 (rd_L1 l0_2 (rd t574 x13_2)).length c587_0) ∧ w'.cell? (ad588.add ((ji35)).toNat) = some (.int .i64 (rd t582 (ji35))) ∧ w'.cell? (ad589.add ((rd t582 (ji35))).toNat) = some (.slice A589_0 (rd_L1 l0_5 (rd t582 (ji35))).length c589_0)) (ds := [23, 24]) #[false, false, false, false, false, false, false, false, false, false, false, false, false, false, false, false, false, false, false, false, false, false, false, false, false, false] (by kernel_rfl) rfl rfl ⟨(blk_cell BK570.out 0).trans rfl, (blk_cell BK570.out 1).trans rfl, (blk_cell BK570.out 2).trans rfl, (blk_cell BK570.out 3).trans rfl, (blk_cell BK570.out 4).trans rfl, (blk_cell BK570.out 5).trans rfl, (blk_cell BK570.out 6).trans rfl, (blk_cell BK570.out 7).trans rfl, hx586_0, ((HB.out.cell (World.block_lt_of_cell? w _ hw587_0)).trans hw587_0), hx588_0, ((HB.out.cell (World.block_lt_of_cell? w _ hw589_0)).trans hw589_0)⟩ (fun hHeld => ?_); refine with_tabW pair_Decide.tab17 pair_Decide.bits17 (fun HT_ HW_ => ?_)
                  generalize wr.drew = w42 at HO_8 HO_11 HO_12 BK570 HB HR587_0 HR589_0 hx586_0 hx587_0 hx588_0 hx589_0 hHeld ⊢
                  refine pure_ (i := 0) (N := some 57) (v := ?_) (a' := ?_) #[true, false, false, false, false, false, false, false, false, false, false, false, false, false, false, false, false, false, false, false, false, false, false, false, false, false] rfl rfl (any_of HT_.out (by kernel_rfl)) (fun _ _ _ h => h) (Or.inl ⟨by rfl, ?_⟩) ?_ ?_
                  rotate_left
                  ·intro w'
                   go_simp
                   with_reducible rfl
                  rotate_left
                  ·simp only [Act.put, List.setIfInBounds_toArray, List.set_cons_zero, List.set_cons_succ, i64_w, i32_w]
                   rfl
                  refine pure_ (i := 1) (N := some 58) (v := ?_) (a' := ?_) #[true, true, false, false, false, false, false, false, false, false, false, false, false, false, false, false, false, false, false, false, false, false, false, false, false, false] rfl rfl (any_of HT_.out (by kernel_rfl)) (fun _ _ _ h => h) (Or.inl ⟨by rfl, ?_⟩) ?_ ?_
                  rotate_left
                  ·intro w'
                   go_simp
                   with_reducible rfl
                  rotate_left
                  ·simp only [Act.put, List.setIfInBounds_toArray, List.set_cons_zero, List.set_cons_succ, i64_w, i32_w]
                   rfl
                  refine pure_ (i := 2) (N := some 59) (v := ?_) (a' := ?_) #[true, true, true, false, false, false, false, false, false, false, false, false, false, false, false, false, false, false, false, false, false, false, false, false, false, false] rfl rfl (any_of HT_.out (by kernel_rfl)) (fun _ _ _ h => h) (Or.inl ⟨by rfl, ?_⟩) ?_ ?_
                  rotate_left
                  ·intro w'
                   go_simp
                   with_reducible rfl
                  rotate_left
                  ·simp only [Act.put, List.setIfInBounds_toArray, List.set_cons_zero, List.set_cons_succ, i64_w, i32_w]
                   rfl
                  refine pure_ (i := 4) (N := some 61) (v := ?_) (a' := ?_) #[true, true, true, false, true, false, false, false, false, false, false, false, false, false, false, false, false, false, false, false, false, false, false, false, false, false] rfl rfl (any_of HT_.out (by kernel_rfl)) (fun _ _ _ h => h) (Or.inl ⟨by rfl, ?_⟩) ?_ ?_
                  rotate_left
                  ·intro w'
                   go_simp
                   with_reducible rfl
                  rotate_left
                  ·simp only [Act.put, List.setIfInBounds_toArray, List.set_cons_zero, List.set_cons_succ, i64_w, i32_w]
                   rfl
                  refine pure_ (i := 5) (N := some 62) (v := ?_) (a' := ?_) #[true, true, true, false, true, true, false, false, false, false, false, false, false, false, false, false, false, false, false, false, false, false, false, false, false, false] rfl rfl (any_of HT_.out (by kernel_rfl)) (fun _ _ _ h => h) (Or.inl ⟨by rfl, ?_⟩) ?_ ?_
                  rotate_left
                  ·intro w'
                   go_simp
                   with_reducible rfl
                  rotate_left
                  ·simp only [Act.put, List.setIfInBounds_toArray, List.set_cons_zero, List.set_cons_succ, i64_w, i32_w]
                   rfl
                  refine pure_ (i := 6) (N := some 63) (v := ?_) (a' := ?_) #[true, true, true, false, true, true, true, false, false, false, false, false, false, false, false, false, false, false, false, false, false, false, false, false, false, false] rfl rfl (any_of HT_.out (by kernel_rfl)) (fun _ _ _ h => h) (Or.inl ⟨by rfl, ?_⟩) ?_ ?_
                  rotate_left
                  ·intro w'
                   go_simp
                   with_reducible rfl
                  rotate_left
                  ·simp only [Act.put, List.setIfInBounds_toArray, List.set_cons_zero, List.set_cons_succ, i64_w, i32_w]
                   rfl
                  refine pure_ (i := 10) (N := some 67) (v := ?_) (a' := ?_) #[true, true, true, false, true, true, true, false, false, false, true, false, false, false, false, false, false, false, false, false, false, false, false, false, false, false] rfl rfl (any_of HT_.out (by kernel_rfl)) (fun _ _ _ h => h) (Or.inl ⟨by rfl, ?_⟩) ?_ ?_
                  rotate_left
                  ·intro w'
                   go_simp
                   with_reducible rfl
                  rotate_left
                  ·simp only [Act.put, List.setIfInBounds_toArray, List.set_cons_zero, List.set_cons_succ, i64_w, i32_w]
                   rfl
                  refine pure_ (i := 11) (N := some 68) (v := ?_) (a' := ?_) #[true, true, true, false, true, true, true, false, false, false, true, true, false, false, false, false, false, false, false, false, false, false, false, false, false, false] rfl rfl (any_of HT_.out (by kernel_rfl)) (fun _ _ _ h => h) (Or.inl ⟨by rfl, ?_⟩) ?_ ?_
                  rotate_left
                  ·intro w'
                   go_simp
                   with_reducible rfl
                  rotate_left
                  ·simp only [Act.put, List.setIfInBounds_toArray, List.set_cons_zero, List.set_cons_succ, i64_w, i32_w]
                   rfl
                  refine pure_ (i := 13) (N := some 70) (v := ?_) (a' := ?_) #[true, true, true, false, true, true, true, false, false, false, true, true, false, true, false, false, false, false, false, false, false, false, false, false, false, false] rfl rfl (any_of HT_.out (by kernel_rfl)) (fun _ _ _ h => h) (Or.inl ⟨by rfl, ?_⟩) ?_ ?_
                  rotate_left
                  ·intro w'
                   go_simp
                   with_reducible rfl
                  rotate_left
                  ·simp only [Act.put, List.setIfInBounds_toArray, List.set_cons_zero, List.set_cons_succ, i64_w, i32_w]
                   rfl
                  refine pure_ (i := 14) (N := some 71) (v := ?_) (a' := ?_) #[true, true, true, false, true, true, true, false, false, false, true, true, false, true, true, false, false, false, false, false, false, false, false, false, false, false] rfl rfl (any_of HT_.out (by kernel_rfl)) (fun _ _ _ h => h) (Or.inl ⟨by rfl, ?_⟩) ?_ ?_
                  rotate_left
                  ·intro w'
                   go_simp
                   with_reducible rfl
                  rotate_left
                  ·simp only [Act.put, List.setIfInBounds_toArray, List.set_cons_zero, List.set_cons_succ, i64_w, i32_w]
                   rfl
                  refine pure_ (i := 15) (N := some 72) (v := ?_) (a' := ?_) #[true, true, true, false, true, true, true, false, false, false, true, true, false, true, true, true, false, false, false, false, false, false, false, false, false, false] rfl rfl (any_of HT_.out (by kernel_rfl)) (fun _ _ _ h => h) (Or.inl ⟨by rfl, ?_⟩) ?_ ?_
                  rotate_left
                  ·intro w'
                   go_simp
                   with_reducible rfl
                  rotate_left
                  ·simp only [Act.put, List.setIfInBounds_toArray, List.set_cons_zero, List.set_cons_succ, i64_w, i32_w]
                   rfl
                  refine pure_ (i := 16) (N := some 73) (v := ?_) (a' := ?_) #[true, true, true, false, true, true, true, false, false, false, true, true, false, true, true, true, true, false, false, false, false, false, false, false, false, false] rfl rfl (any_of HT_.out (by kernel_rfl)) (fun _ _ _ h => h) (Or.inl ⟨by rfl, ?_⟩) ?_ ?_
                  rotate_left
                  ·intro w'
                   go_simp
                   with_reducible rfl
                  rotate_left
                  ·simp only [Act.put, List.setIfInBounds_toArray, List.set_cons_zero, List.set_cons_succ, i64_w, i32_w]
                   rfl
                  refine pure_ (i := 17) (N := some 74) (v := ?_) (a' := ?_) #[true, true, true, false, true, true, true, false, false, false, true, true, false, true, true, true, true, true, false, false, false, false, false, false, false, false] rfl rfl (any_of HT_.out (by kernel_rfl)) (fun _ _ _ h => h) (Or.inl ⟨by rfl, ?_⟩) ?_ ?_
                  rotate_left
                  ·intro w'
                   go_simp
                   with_reducible rfl
                  rotate_left
                  ·simp only [Act.put, List.setIfInBounds_toArray, List.set_cons_zero, List.set_cons_succ, i64_w, i32_w]
                   rfl
                  refine pure_ (i := 18) (N := some 75) (v := ?_) (a' := ?_) #[true, true, true, false, true, true, true, false, false, false, true, true, false, true, true, true, true, true, true, false, false, false, false, false, false, false] rfl rfl (any_of HT_.out (by kernel_rfl)) (fun _ _ _ h => h) (Or.inl ⟨by rfl, ?_⟩) ?_ ?_
                  rotate_left
                  ·intro w'
                   go_simp
                   with_reducible rfl
                  rotate_left
                  ·simp only [Act.put, List.setIfInBounds_toArray, List.set_cons_zero, List.set_cons_succ, i64_w, i32_w]
                   rfl
                  refine take_ (i := 3) (N := some 60) (v := ?_) (a' := ?_) #[true, true, true, true, true, true, true, false, false, false, true, true, false, true, true, true, true, true, true, false, false, false, false, false, false, false] rfl rfl (take_ofW HT_.out HW_.out (by kernel_rfl)) (fun _ _ _ h => h) (Or.inl ⟨by rfl, ?_⟩) hHeld ?_ ?_
                  rotate_left
                  ·rintro w' ⟨s0, s1, s2, s3, s4, s5, s6, s7, s8, s9, s10, s11⟩
                   go_simp
                   with_reducible rfl
                  rotate_left
                  ·simp only [Act.put, List.setIfInBounds_toArray, List.set_cons_zero, List.set_cons_succ, i64_w, i32_w]
                   rfl
                  refine take_ (i := 7) (N := some 64) (v := ?_) (a' := ?_) #[true, true, true, true, true, true, true, true, false, false, true, true, false, true, true, true, true, true, true, false, false, false, false, false, false, false] rfl rfl (take_ofW HT_.out HW_.out (by kernel_rfl)) (fun _ _ _ h => h) (Or.inl ⟨by rfl, ?_⟩) hHeld ?_ ?_
                  rotate_left
                  ·rintro w' ⟨s0, s1, s2, s3, s4, s5, s6, s7, s8, s9, s10, s11⟩
                   go_simp
                   with_reducible rfl
                  rotate_left
                  ·simp only [Act.put, List.setIfInBounds_toArray, List.set_cons_zero, List.set_cons_succ, i64_w, i32_w]
                   rfl
                  refine pure_ (i := 8) (N := some 65) (v := ?_) (a' := ?_) #[true, true, true, true, true, true, true, true, true, false, true, true, false, true, true, true, true, true, true, false, false, false, false, false, false, false] rfl rfl (any_of HT_.out (by kernel_rfl)) (fun _ _ _ h => h) (Or.inl ⟨by rfl, ?_⟩) ?_ ?_
                  rotate_left
                  ·intro w'
                   go_simp
                   with_reducible rfl
                  rotate_left
                  ·simp only [Act.put, List.setIfInBounds_toArray, List.set_cons_zero, List.set_cons_succ, i64_w, i32_w]
                   rfl
                  refine take_ (i := 9) (N := some 66) (v := ?_) (a' := ?_) #[true, true, true, true, true, true, true, true, true, true, true, true, false, true, true, true, true, true, true, false, false, false, false, false, false, false] rfl rfl (take_ofW HT_.out HW_.out (by kernel_rfl)) (fun _ _ _ h => h) (Or.inl ⟨by rfl, ?_⟩) hHeld ?_ ?_
                  rotate_left
                  ·rintro w' ⟨s0, s1, s2, s3, s4, s5, s6, s7, s8, s9, s10, s11⟩
                   go_simp
                   with_reducible rfl
                  rotate_left
                  ·simp only [Act.put, List.setIfInBounds_toArray, List.set_cons_zero, List.set_cons_succ, i64_w, i32_w]
                   rfl
                  refine take_ (i := 12) (N := some 69) (v := ?_) (a' := ?_) #[true, true, true, true, true, true, true, true, true, true, true, true, true, true, true, true, true, true, true, false, false, false, false, false, false, false] rfl rfl (take_ofW HT_.out HW_.out (by kernel_rfl)) (fun _ _ _ h => h) (Or.inl ⟨by rfl, ?_⟩) hHeld ?_ ?_
                  rotate_left
                  ·rintro w' ⟨s0, s1, s2, s3, s4, s5, s6, s7, s8, s9, s10, s11⟩
                   go_simp
                   with_reducible rfl
                  rotate_left
                  ·simp only [Act.put, List.setIfInBounds_toArray, List.set_cons_zero, List.set_cons_succ, i64_w, i32_w]
                   rfl
                  refine take_ (i := 19) (N := some 76) (v := ?_) (a' := ?_) #[true, true, true, true, true, true, true, true, true, true, true, true, true, true, true, true, true, true, true, true, false, false, false, false, false, false] rfl rfl (take_ofW HT_.out HW_.out (by kernel_rfl)) (fun _ _ _ h => h) (Or.inl ⟨by rfl, ?_⟩) hHeld ?_ ?_
                  rotate_left
                  ·rintro w' ⟨s0, s1, s2, s3, s4, s5, s6, s7, s8, s9, s10, s11⟩
                   go_simp
                   with_reducible rfl
                  rotate_left
                  ·simp only [Act.put, List.setIfInBounds_toArray, List.set_cons_zero, List.set_cons_succ, i64_w, i32_w]
                   rfl
                  refine pure_ (i := 20) (N := some 77) (v := ?_) (a' := ?_) #[true, true, true, true, true, true, true, true, true, true, true, true, true, true, true, true, true, true, true, true, true, false, false, false, false, false] rfl rfl (any_of HT_.out (by kernel_rfl)) (fun _ _ _ h => h) (Or.inl ⟨by rfl, ?_⟩) ?_ ?_
                  rotate_left
                  ·intro w'
                   go_simp
                   with_reducible rfl
                  rotate_left
                  ·simp only [Act.put, List.setIfInBounds_toArray, List.set_cons_zero, List.set_cons_succ, i64_w, i32_w]
                   rfl
                  refine take_ (i := 21) (N := some 78) (v := ?_) (a' := ?_) #[true, true, true, true, true, true, true, true, true, true, true, true, true, true, true, true, true, true, true, true, true, true, false, false, false, false] rfl rfl (take_ofW HT_.out HW_.out (by kernel_rfl)) (fun _ _ _ h => h) (Or.inl ⟨by rfl, ?_⟩) hHeld ?_ ?_
                  rotate_left
                  ·rintro w' ⟨s0, s1, s2, s3, s4, s5, s6, s7, s8, s9, s10, s11⟩
                   go_simp
                   with_reducible rfl
                  rotate_left
                  ·simp only [Act.put, List.setIfInBounds_toArray, List.set_cons_zero, List.set_cons_succ, i64_w, i32_w]
                   rfl
                  refine one_ (i := 22) (N := some 79) #[true, true, true, true, true, true, true, true, true, true, true, true, true, true, true, true, true, true, true, true, true, true, true, false, false, false] rfl rfl (one_of HT_.out (by kernel_rfl)) (by decide) (fun K hK => ?_)
                  refine goes_ Tryd.func96 (by kernel_rfl) rfl #[.slice A587_0 (rd_L1 l0_2 (rd t574 x13_2)).length c587_0, .slice A589_0 (rd_L1 l0_5 (rd t582 (ji35))).length c589_0] (by rfl) rfl rfl (by (try simp only [List.map_toArray, List.map_cons, List.map_nil]); first | done | (simp only [hji35]; rfl) | rfl | (simp only [List.length_drop, List.length_take]; rfl)) ?_
                  with_reducible refine (pair_both.calls k2 (fun k_ => k_ < w.heap.size) _ _ (rd_L1 l0_2 (rd t574 x13_2)) (fun k_ => k_ < w.heap.size) _ _ (rd_L1 l0_5 (rd t582 (ji35))) t590 _ ?side1 ?side2 A40.out).mono ?_
                  (case side1 => exact Kd.V_mk HC587_0.out (Kd.F_below (Kd.C_F (Kd.heap_int .i64) HR587_0.out) (by repeat (first | (with_reducible first | exact HB.out | apply below_alloc | apply pw_below_drewN | apply below_drew1 | refine below_set ?_ GE570.out) | exact HB.out))))
                  (case side2 => exact Kd.V_mk HC589_0.out (Kd.F_below (Kd.C_F (Kd.heap_int .i64) HR589_0.out) (by repeat (first | (with_reducible first | exact HB.out | apply below_alloc | apply pw_below_drewN | apply below_drew1 | refine below_set ?_ GE570.out) | exact HB.out))))
                  rintro e w45 ⟨rfl, hb⟩
                  have HS8_ := (hb.cell (World.block_lt_of_cell? _ _ (hHeld.2.2.2.2.2.2.2.2.1))).trans (hHeld.2.2.2.2.2.2.2.2.1)
                  have HS10_ := (hb.cell (World.block_lt_of_cell? _ _ (hHeld.2.2.2.2.2.2.2.2.2.2.1))).trans (hHeld.2.2.2.2.2.2.2.2.2.2.1)
                  refine ⟨_, rfl, ?_⟩
                  have n0_ := Aside0.mk (Kd.R_below (by (with_reducible repeat (first | apply Kd.R_alloc | apply Kd.R_drewN | apply Kd.R_drew)); exact HO_8.out) hb)
                  have n1_ := Aside0.mk (Kd.R_below (by (with_reducible repeat (first | apply Kd.R_alloc | apply Kd.R_drewN | apply Kd.R_drew)); exact HO_11.out) hb)
                  have n2_ := Aside0.mk (Kd.R_below (by (with_reducible repeat (first | apply Kd.R_alloc | apply Kd.R_drewN | apply Kd.R_drew)); exact HO_12.out) hb)
                  have n3_ := Aside0.mk (blk_below (g := gb570) (o := .cells #[.int .i64 a0_0, .slice A0_1 l0_1.length c0_1, .slice (some ad587) l0_2.length c0_2, .int .i64 a0_3, .slice A0_4 l0_4.length c0_4, .slice (some ad589) l0_5.length c0_5, .slice A0_6 l0_6.length c0_6, .bool a0_7] 60 (0, 0)) (by (with_reducible repeat (first | refine blk_drewN ?_ _ | refine blk_drew ?_ | refine blk_alloc ?_ _)); exact BK570.out) hb)
                  have n4_ := Aside0.mk (below_step (by repeat (first | (with_reducible first | exact HB.out | apply below_alloc | apply pw_below_drewN | apply below_drew1 | refine below_set ?_ GE570.out) | exact HB.out)) hb)
                  clear HO_8
                  clear HO_11
                  clear HO_12
                  clear BK570
                  clear HB
                  have HO_8 := n0_
                  have HO_11 := n1_
                  have HO_12 := n2_
                  have BK570 := n3_
                  have HB := n4_
                  clear n0_ n1_ n2_ n3_ n4_
                  (try clear hb)
                  (try clear hb2)
                  (try clear hk)
                  (try clear hi)
                  refine hK.out _ _ ⟨(blk_cell BK570.out 0).trans rfl, (blk_cell BK570.out 1).trans rfl, (blk_cell BK570.out 2).trans rfl, (blk_cell BK570.out 3).trans rfl, (blk_cell BK570.out 4).trans rfl, (blk_cell BK570.out 5).trans rfl, (blk_cell BK570.out 6).trans rfl, (blk_cell BK570.out 7).trans rfl, HS8_, ((HB.out.cell (World.block_lt_of_cell? w _ hw587_0)).trans hw587_0), HS10_, ((HB.out.cell (World.block_lt_of_cell? w _ hw589_0)).trans hw589_0)⟩ (fun hHeld => ?_)
                  clear hK K
                  refine norm_ (a' := ?_) ?_ ?_
                  rotate_left
                  ·show Act.put _ (some 79) _ = _
                   simp only [Act.put, List.setIfInBounds_toArray, List.set_cons_zero, List.set_cons_succ, i64_w, i32_w]
                   rfl
                  refine last_ (i := 23) (N := some 80) #[true, true, true, true, true, true, true, true, true, true, true, true, true, true, true, true, true, true, true, true, true, true, true, true, false, false] rfl rfl (one_of HT_.out (by kernel_rfl)) (by decide) (fun K hK => ?_)
                  refine value_ (w1 := ?_) (v := ?_) (by rfl) rfl ?_ ?_
                  rotate_left 2
                  ·go_simp
                   constructor
                   ·rfl
                   ·rfl
                  refine hK.out _ _ ?_
                  clear hK K
                  refine norm_ (a' := ?_) ?_ ?_
                  rotate_left
                  ·show Act.put _ (some 80) _ = _
                   simp only [Act.put, List.setIfInBounds_toArray, List.set_cons_zero, List.set_cons_succ, i64_w, i32_w]
                   rfl
                  refine last_ (i := 24) (N := some 81) #[true, true, true, true, true, true, true, true, true, true, true, true, true, true, true, true, true, true, true, true, true, true, true, true, true, false] rfl rfl (one_of HT_.out (by kernel_rfl)) (by decide) (fun K hK => ?_)
                  refine Kd.R_append_step (Kd.int .i64) (w0 := w) w.heap.size (by rfl) (.tmp 57) (.tmp 80) 25 3 (.int .i64 0) 8 rfl Tryd.underlying25 info3 rfl (by decide) (by omega) u12 x12_2 t590 [.int .i64 t590] (fun k_ => some k_ ≠ (.slice (some ad586) t574.length co43 : Value).ownBlock ∧ some k_ ≠ (.slice (some ad588) t582.length co44 : Value).ownBlock) (fun _ => False) rfl rfl ?aP (fun _ hk => hk.elim) ?aF ?aO ?aB ?aS ?aL ?_
                  (case aP => exact rfl)
                  (case aB => exact (by repeat (first | (with_reducible first | exact HB.out | apply below_alloc | apply pw_below_drewN | apply below_drew1 | refine below_set ?_ GE570.out) | exact HB.out)))
                  (case aF => exact (fun k_ hk => ⟨Kd.fresh' (Kd.R_lt (by (with_reducible repeat (first | apply Kd.R_alloc | apply Kd.R_drewN | apply Kd.R_drew)); exact HO_8.out)) k_ hk, Kd.fresh' (Kd.R_lt (by (with_reducible repeat (first | apply Kd.R_alloc | apply Kd.R_drewN | apply Kd.R_drew)); exact HO_11.out)) k_ hk⟩))
                  (case aO => exact (by (with_reducible repeat (first | apply Kd.R_alloc | apply Kd.R_drewN | apply Kd.R_drew)); exact HO_12.out))
                  (case aS => exact (below_size (by repeat (first | (with_reducible first | exact HB.out | apply below_alloc | apply pw_below_drewN | apply below_drew1 | refine below_set ?_ GE570.out) | exact HB.out))))
                  (case aL => have := LMc41.out; omega)
                  intro v592 w46 ho hb hg hat
                  rw [← Ny591.out] at ho
                  have n0_ := Aside0.mk (Kd.R_after (ok := (fun k_ => some k_ ≠ (.slice (some ad588) t582.length co44 : Value).ownBlock)) (by (with_reducible repeat (first | apply Kd.R_alloc | apply Kd.R_drewN | apply Kd.R_drew)); exact HO_8.out) hg hat)
                  have n1_ := Aside0.mk (Kd.R_after (ok := (fun k_ => some k_ ≠ (.slice (some ad586) t574.length co43 : Value).ownBlock)) (by (with_reducible repeat (first | apply Kd.R_alloc | apply Kd.R_drewN | apply Kd.R_drew)); exact HO_11.out) hg hat)
                  have n2_ := Aside0.mk (blk_grown (g := gb570) (o := .cells #[.int .i64 a0_0, .slice A0_1 l0_1.length c0_1, .slice (some ad587) l0_2.length c0_2, .int .i64 a0_3, .slice A0_4 l0_4.length c0_4, .slice (some ad589) l0_5.length c0_5, .slice A0_6 l0_6.length c0_6, .bool a0_7] 60 (0, 0)) (by (with_reducible repeat (first | refine blk_drewN ?_ _ | refine blk_drew ?_ | refine blk_alloc ?_ _)); exact BK570.out) hg (Kd.R_ne HO_12.out BK570.out (by decide)))
                  have n3_ := Aside0.mk (hb)
                  have n4_ := Aside0.mk (ho)
                  clear HO_8
                  clear HO_11
                  clear BK570
                  clear HB
                  clear HO_12
                  have HO_8 := n0_
                  have HO_11 := n1_
                  have BK570 := n2_
                  have HB := n3_
                  have HO593 := n4_
                  clear n0_ n1_ n2_ n3_ n4_
                  clear ho hb hg hat
                  refine hK.out _ _ ?_
                  clear hK K
                  refine norm_ (a' := ?_) ?_ ?_
                  rotate_left
                  ·show Act.put _ (some 81) _ = _
                   simp only [Act.put, List.setIfInBounds_toArray, List.set_cons_zero, List.set_cons_succ, i64_w, i32_w]
                   rfl
                  refine pure_ (i := 25) (N := some 12) (v := ?_) (a' := ?_) #[true, true, true, true, true, true, true, true, true, true, true, true, true, true, true, true, true, true, true, true, true, true, true, true, true, true] rfl rfl (any_of HT_.out (by kernel_rfl)) (fun _ _ _ h => h) (Or.inl ⟨by rfl, ?_⟩) ?_ ?_
                  rotate_left
                  ·intro w'
                   go_simp
                   with_reducible rfl
                  rotate_left
                  ·simp only [Act.put, List.setIfInBounds_toArray, List.set_cons_zero, List.set_cons_succ, i64_w, i32_w]
                   rfl
                  refine done_ (done_of HT_.out (by kernel_rfl)) ?_
                  try go_wp2
                  go_roundg k2
                  case measure => have := HJ3.out; have := HK2.out; omega
                  case rel => exact ⟨(y591), (wrap64 (x13_2 + 1)), (by first | rfl | (simp; done) | (simp [*]; done)), H', ⟨by have := HJ3.out; have := HK2.out; omega⟩, ⟨by (with_reducible repeat (first | apply Kd.R_alloc | apply Kd.R_drewN | apply Kd.R_drew)); exact HO_8.out⟩, ⟨by (with_reducible repeat (first | apply Kd.R_alloc | apply Kd.R_drewN | apply Kd.R_drew)); exact HO_11.out⟩, ⟨by (with_reducible repeat (first | apply Kd.R_alloc | apply Kd.R_drewN | apply Kd.R_drew)); exact HO593.out⟩, ⟨by (with_reducible repeat (first | refine blk_drewN ?_ _ | refine blk_drew ?_ | refine blk_alloc ?_ _)); exact BK570.out⟩, ⟨by repeat (first | (with_reducible first | exact HB.out | apply below_alloc | apply pw_below_drewN | apply below_drew1 | refine below_set ?_ GE570.out) | exact HB.out)⟩⟩
                 ·rw [if_neg c41] at H
                  exact absurd H (by simp)
                ·rw [if_neg c39] at H
                 exact absurd H (by simp)
               ·rw [if_neg c38] at H
                exact absurd H (by simp)
              ·rw [if_neg c37] at H
               exact absurd H (by simp)
             ·rw [if_neg c36] at H
              exact absurd H (by simp)
            ·rw [if_neg c34] at H
             exact absurd H (by simp)
           ·rw [if_neg c33] at H
            exact absurd H (by simp)
          ·rw [if_neg c32] at H
           exact absurd H (by simp)
         ·rw [if_neg c31] at H
          exact absurd H (by simp)
        ·rw [if_neg c30] at H
         have c30b0 : decide (x13_2 < (l1.length : Int)) = false := decide_eq_false c30
         clear c30
         simp only [Option.some.injEq, Prod.mk.injEq] at H
         obtain ⟨rfl, rfl⟩ := H
         have hAq := HAll.out _ HB.out
         go_wp2
         go_ret2
         exact ⟨_, by first | (rw [HE585.out]; rfl) | (rw [HE577.out]; rfl) | rfl | (simp [errW_none, errW_some] <;> rfl) | (simp [*, errW_none, errW_some] <;> rfl), by (with_reducible repeat (first | apply Kd.R_alloc | apply Kd.R_drewN | apply Kd.R_drew)); exact Kd.R_mono HO_12.out (fun _ hk => trivial), by repeat (first | (with_reducible first | exact HB.out | apply below_alloc | apply pw_below_drewN | apply below_drew1 | refine below_set ?_ GE570.out) | exact HB.out)⟩
     ·rw [if_neg c22] at H
      have HE585 := Aside0.mk (show errI (.iface tE pE) t585 = .iface tE pE from if_neg c22)
      have c22b0 : (t585 == 0) = false := beq_eq_false_iff_ne.mpr c22
      have c22b1 : (t585 != 0) = true := bne_iff_ne.mpr c22
      simp only [Option.some.injEq, Prod.mk.injEq] at H
      obtain ⟨rfl, rfl⟩ := H
      have hAq := HAll.out _ HB.out
      have hcz47_0 : wc.cell? ⟨gb570, 0, none⟩ = some (.int .i64 a0_0) := (blk_cell BK570.out 0).trans rfl
      have hcz47_1 : wc.cell? ⟨gb570, 1, none⟩ = some (.slice A0_1 l0_1.length c0_1) := (blk_cell BK570.out 1).trans rfl
      have hcz47_2 : wc.cell? ⟨gb570, 2, none⟩ = some (.slice A0_2 l0_2.length c0_2) := (blk_cell BK570.out 2).trans rfl
      have hcz47_3 : wc.cell? ⟨gb570, 3, none⟩ = some (.int .i64 a0_3) := (blk_cell BK570.out 3).trans rfl
      have hcz47_4 : wc.cell? ⟨gb570, 4, none⟩ = some (.slice A0_4 l0_4.length c0_4) := (blk_cell BK570.out 4).trans rfl
      have hcz47_5 : wc.cell? ⟨gb570, 5, none⟩ = some (.slice A0_5 l0_5.length c0_5) := (blk_cell BK570.out 5).trans rfl
      have hcz47_6 : wc.cell? ⟨gb570, 6, none⟩ = some (.slice A0_6 l0_6.length c0_6) := (blk_cell BK570.out 6).trans rfl
      have hcz47_7 : wc.cell? ⟨gb570, 7, none⟩ = some (.bool a0_7) := (blk_cell BK570.out 7).trans rfl
      have hfz47_0 := blk_frozen BK570.out 0
      have hfz47_1 := blk_frozen BK570.out 1
      have hfz47_2 := blk_frozen BK570.out 2
      have hfz47_3 := blk_frozen BK570.out 3
      have hfz47_4 := blk_frozen BK570.out 4
      have hfz47_5 := blk_frozen BK570.out 5
      have hfz47_6 := blk_frozen BK570.out 6
      have hfz47_7 := blk_frozen BK570.out 7
      go_wp2_with (first | ((with_reducible refine gate_callee (f := 94) rfl ?_); refine goesL_ (some 31) rfl rfl Tryd.func94 (by kernel_rfl) rfl #[.agg #[.int .i64 a0_0, .slice A0_1 l0_1.length c0_1, .slice A0_2 l0_2.length c0_2], .slice A1 l1.length c1] rfl (by (try simp only [List.map_toArray, List.map_cons, List.map_nil]); first | done | rfl | (simp only [List.length_drop, List.length_take]; rfl)) ?_; (with_reducible refine (machine_Run.calls kj3 a0_0 _ _ l0_1 _ _ l0_2 _ _ l1 t574 t577 (.iface tE pE) _ (HAll.out _ (by repeat (first | (with_reducible first | exact HB.out | apply below_alloc | apply pw_below_drewN | apply below_drew1) | exact HB.out))) (Nat.le_trans HL1.out (by decide)) ?side1 ?side2 ?side3 ?side4 ?side5 ?side6 A17.out).mono ?_); (case side1 => repeat (first | exact (Kd.C_below HR0_1.out HB.out) | (with_reducible refine Kd.C_alloc ?_ _) | (with_reducible refine Kd.C_drewN ?_ _) | (with_reducible refine Kd.C_drew ?_))); (case side2 => exact HC0_1.out); (case side3 => repeat (first | exact (Kd.C_below HR0_2.out HB.out) | (with_reducible refine Kd.C_alloc ?_ _) | (with_reducible refine Kd.C_drewN ?_ _) | (with_reducible refine Kd.C_drew ?_))); (case side4 => exact HC0_2.out); (case side5 => repeat (first | exact (Kd.C_below HR1.out HB.out) | (with_reducible refine Kd.C_alloc ?_ _) | (with_reducible refine Kd.C_drewN ?_ _) | (with_reducible refine Kd.C_drew ?_))); (case side6 => exact HC1.out); rintro e w48 ⟨v575, he, ho0, hb⟩; rw [HE577.out] at he; subst he; refine ⟨_, rfl, ?_⟩; have n0_ := Aside0.mk (Kd.R_lower ho0 (below_size (by repeat (first | (with_reducible first | exact HB.out | apply below_alloc | apply pw_below_drewN | apply below_drew1 | refine below_set ?_ GE570.out) | exact HB.out)))); have n1_ := Aside0.mk (blk_below (g := gb570) (o := .cells #[.int .i64 a0_0, .slice A0_1 l0_1.length c0_1, .slice A0_2 l0_2.length c0_2, .int .i64 a0_3, .slice A0_4 l0_4.length c0_4, .slice A0_5 l0_5.length c0_5, .slice A0_6 l0_6.length c0_6, .bool a0_7] 60 (0, 0)) (by (with_reducible repeat (first | refine blk_drewN ?_ _ | refine blk_drew ?_ | refine blk_alloc ?_ _)); exact BK570.out) hb); have n2_ := Aside0.mk (below_step (by repeat (first | (with_reducible first | exact HB.out | apply below_alloc | apply pw_below_drewN | apply below_drew1 | refine below_set ?_ GE570.out) | exact HB.out)) hb); clear BK570; clear HB; have HO576 := n0_; have BK570 := n1_; have HB := n2_; clear n0_ n1_ n2_; (try clear hb); (try clear hb2); (try clear hk); (try clear hi); (try clear ho0)) | ((with_reducible refine gate_callee (f := 82) rfl ?_); refine goesL_ (some 38) rfl rfl Tryd.func82 (by kernel_rfl) rfl #[.slice A1 l1.length c1] rfl (by (try simp only [List.map_toArray, List.map_cons, List.map_nil]); first | done | rfl | (simp only [List.length_drop, List.length_take]; rfl)) ?_; (with_reducible refine (Go.Proofs.YtfonajakaimnoaaDoor.Fn.clone_calls _ _ l1 _ ?side1 ?side2).mono ?_); (case side1 => repeat (first | exact (Kd.C_below HR1.out HB.out) | (with_reducible refine Kd.C_alloc ?_ _) | (with_reducible refine Kd.C_drewN ?_ _) | (with_reducible refine Kd.C_drew ?_))); (case side2 => exact HL1.out); rintro e w49 ⟨v579, rfl, ho0, hb⟩; rw [HQ578.out] at ho0; refine ⟨_, rfl, ?_⟩; have n0_ := Aside0.mk (Kd.R_elder' (by (with_reducible repeat (first | apply Kd.R_alloc | apply Kd.R_drewN | apply Kd.R_drew)); exact HO576.out) (Kd.R_base ho0) hb); have n1_ := Aside0.mk (Kd.R_lower (Kd.R_new' ho0 (Kd.R_lt (by (with_reducible repeat (first | apply Kd.R_alloc | apply Kd.R_drewN | apply Kd.R_drew)); exact HO576.out))) (below_size (by repeat (first | (with_reducible first | exact HB.out | apply below_alloc | apply pw_below_drewN | apply below_drew1 | refine below_set ?_ GE570.out) | exact HB.out)))); have n2_ := Aside0.mk (blk_below (g := gb570) (o := .cells #[.int .i64 a0_0, .slice A0_1 l0_1.length c0_1, .slice A0_2 l0_2.length c0_2, .int .i64 a0_3, .slice A0_4 l0_4.length c0_4, .slice A0_5 l0_5.length c0_5, .slice A0_6 l0_6.length c0_6, .bool a0_7] 60 (0, 0)) (by (with_reducible repeat (first | refine blk_drewN ?_ _ | refine blk_drew ?_ | refine blk_alloc ?_ _)); exact BK570.out) hb); have n3_ := Aside0.mk (below_step (by repeat (first | (with_reducible first | exact HB.out | apply below_alloc | apply pw_below_drewN | apply below_drew1 | refine below_set ?_ GE570.out) | exact HB.out)) hb); clear HO576; clear BK570; clear HB; have HO576 := n0_; have HO580 := n1_; have BK570 := n2_; have HB := n3_; clear n0_ n1_ n2_ n3_; (try clear hb); (try clear hb2); (try clear hk); (try clear hi); (try clear ho0); obtain ⟨Ao50, co50, eo50⟩ := Kd.R_slice HO580.out; subst eo50) | ((with_reducible refine gate_callee (f := 95) rfl ?_); refine goesL_ (some 40) rfl rfl Tryd.func95 (by kernel_rfl) rfl #[.slice Ao50 t578.length co50] rfl (by (try simp only [List.map_toArray, List.map_cons, List.map_nil]); first | done | rfl | (simp only [List.length_drop, List.length_take]; rfl)) ?_; (with_reducible refine (slices_Reverse_int_int.calls kj3 (fun k_ => some k_ = (.slice Ao50 t578.length co50 : Value).ownBlock) (.slice Ao50 t578.length co50) t578 t581 w _ ?side1 ?side2 A20.out).mono ?_); (case side1 => repeat (first | (with_reducible first | exact HB.out | apply below_alloc | apply pw_below_drewN | apply below_drew1 | refine below_set ?_ GE570.out) | exact HB.out)); (case side2 => exact Kd.R_tight rfl HO580.out); rintro e w51 ⟨rfl, hy0, hb, hkp⟩; refine ⟨_, rfl, ?_⟩; have n0_ := Aside0.mk (blk_kept (by (with_reducible repeat (first | refine blk_drewN ?_ _ | refine blk_drew ?_ | refine blk_alloc ?_ _)); exact BK570.out) hkp (fun hs_ => (fun e_ => (Kd.R_ne HO580.out BK570.out (by decide)) e_) hs_)); have n1_ := Aside0.mk (Kd.R_mono (ok' := fun k_ => some k_ ≠ (.slice Ao50 t578.length co50 : Value).ownBlock) (Kd.R_keptB (HO576.out) hkp (fun k_ hk_ hs_ => (hk_.2) hs_)) (fun k_ hk_ => hk_.1.2)); have n2_ := Aside0.mk (Kd.R_reok rfl hy0 (fun k_ e_ => HO580.out.1 k_ e_)); have n3_ := Aside0.mk (hb); clear BK570; clear HO576; clear HO580; clear HB; have BK570 := n0_; have HO576 := n1_; have HO580 := n2_; have HB := n3_; clear n0_ n1_ n2_ n3_; (try clear hb); (try clear hkp); (try clear hy0); have hcz52_0 : w51.cell? ⟨gb570, 0, none⟩ = some (.int .i64 a0_0) := (blk_cell BK570.out 0).trans rfl; have hcz52_1 : w51.cell? ⟨gb570, 1, none⟩ = some (.slice A0_1 l0_1.length c0_1) := (blk_cell BK570.out 1).trans rfl; have hcz52_2 : w51.cell? ⟨gb570, 2, none⟩ = some (.slice A0_2 l0_2.length c0_2) := (blk_cell BK570.out 2).trans rfl; have hcz52_3 : w51.cell? ⟨gb570, 3, none⟩ = some (.int .i64 a0_3) := (blk_cell BK570.out 3).trans rfl; have hcz52_4 : w51.cell? ⟨gb570, 4, none⟩ = some (.slice A0_4 l0_4.length c0_4) := (blk_cell BK570.out 4).trans rfl; have hcz52_5 : w51.cell? ⟨gb570, 5, none⟩ = some (.slice A0_5 l0_5.length c0_5) := (blk_cell BK570.out 5).trans rfl; have hcz52_6 : w51.cell? ⟨gb570, 6, none⟩ = some (.slice A0_6 l0_6.length c0_6) := (blk_cell BK570.out 6).trans rfl; have hcz52_7 : w51.cell? ⟨gb570, 7, none⟩ = some (.bool a0_7) := (blk_cell BK570.out 7).trans rfl; have hfz52_0 := blk_frozen BK570.out 0; have hfz52_1 := blk_frozen BK570.out 1; have hfz52_2 := blk_frozen BK570.out 2; have hfz52_3 := blk_frozen BK570.out 3; have hfz52_4 := blk_frozen BK570.out 4; have hfz52_5 := blk_frozen BK570.out 5; have hfz52_6 := blk_frozen BK570.out 6; have hfz52_7 := blk_frozen BK570.out 7) | ((with_reducible refine gate_callee (f := 94) rfl ?_); refine goesL_ (some 45) rfl rfl Tryd.func94 (by kernel_rfl) rfl #[.agg #[.int .i64 a0_3, .slice A0_4 l0_4.length c0_4, .slice A0_5 l0_5.length c0_5], .slice Ao50 t581.length co50] rfl (by (try simp only [List.map_toArray, List.map_cons, List.map_nil]); first | done | (rw [show t581.length = t578.length from (Kd.R_reads' HO580.out).1.symm] <;> rfl) | rfl | (simp only [List.length_drop, List.length_take]; rfl)) ?_; (with_reducible refine (machine_Run.calls kj3 a0_3 _ _ l0_4 _ _ l0_5 _ _ t581 t582 t585 (.iface tE pE) _ (HAll.out _ (by repeat (first | (with_reducible first | exact HB.out | apply below_alloc | apply pw_below_drewN | apply below_drew1) | exact HB.out))) (by rw [show t581.length = t578.length from (Kd.R_reads' HO580.out).1.symm, ← HQ578.out]; exact Nat.le_trans HL1.out (by decide)) ?side1 ?side2 ?side3 ?side4 ?side5 ?side6 A21.out).mono ?_); (case side1 => repeat (first | exact (Kd.C_below HR0_4.out HB.out) | (with_reducible refine Kd.C_alloc ?_ _) | (with_reducible refine Kd.C_drewN ?_ _) | (with_reducible refine Kd.C_drew ?_))); (case side2 => exact HC0_4.out); (case side3 => repeat (first | exact (Kd.C_below HR0_5.out HB.out) | (with_reducible refine Kd.C_alloc ?_ _) | (with_reducible refine Kd.C_drewN ?_ _) | (with_reducible refine Kd.C_drew ?_))); (case side4 => exact HC0_5.out); (case side5 => repeat (first | exact (Kd.R_reads' HO580.out).2.2 | (with_reducible refine Kd.C_alloc ?_ _) | (with_reducible refine Kd.C_drewN ?_ _) | (with_reducible refine Kd.C_drew ?_))); (case side6 => rw [show t581.length = t578.length from (Kd.R_reads' HO580.out).1.symm]; exact (Kd.R_reads' HO580.out).2.1); rintro e w53 ⟨v583, he, ho0, hb⟩; rw [HE585.out] at he; subst he; refine ⟨_, rfl, ?_⟩; have n0_ := Aside0.mk (Kd.R_elder' (by (with_reducible repeat (first | apply Kd.R_alloc | apply Kd.R_drewN | apply Kd.R_drew)); exact HO576.out) (Kd.R_base ho0) hb); have n1_ := Aside0.mk (Kd.R_elder' (by (with_reducible repeat (first | apply Kd.R_alloc | apply Kd.R_drewN | apply Kd.R_drew)); exact HO580.out) (Kd.R_base ho0) hb); have n2_ := Aside0.mk (Kd.R_lower (Kd.R_new' (Kd.R_new' ho0 (Kd.R_lt (by (with_reducible repeat (first | apply Kd.R_alloc | apply Kd.R_drewN | apply Kd.R_drew)); exact HO576.out))) (Kd.R_lt (by (with_reducible repeat (first | apply Kd.R_alloc | apply Kd.R_drewN | apply Kd.R_drew)); exact HO580.out))) (below_size (by repeat (first | (with_reducible first | exact HB.out | apply below_alloc | apply pw_below_drewN | apply below_drew1 | refine below_set ?_ GE570.out) | exact HB.out)))); have n3_ := Aside0.mk (blk_below (g := gb570) (o := .cells #[.int .i64 a0_0, .slice A0_1 l0_1.length c0_1, .slice A0_2 l0_2.length c0_2, .int .i64 a0_3, .slice A0_4 l0_4.length c0_4, .slice A0_5 l0_5.length c0_5, .slice A0_6 l0_6.length c0_6, .bool a0_7] 60 (0, 0)) (by (with_reducible repeat (first | refine blk_drewN ?_ _ | refine blk_drew ?_ | refine blk_alloc ?_ _)); exact BK570.out) hb); have n4_ := Aside0.mk (below_step (by repeat (first | (with_reducible first | exact HB.out | apply below_alloc | apply pw_below_drewN | apply below_drew1 | refine below_set ?_ GE570.out) | exact HB.out)) hb); clear HO576; clear HO580; clear BK570; clear HB; have HO576 := n0_; have HO580 := n1_; have HO584 := n2_; have BK570 := n3_; have HB := n4_; clear n0_ n1_ n2_ n3_ n4_; (try clear hb); (try clear hb2); (try clear hk); (try clear hi); (try clear ho0)))
      go_ret2
      exact ⟨_, by first | (rw [HE585.out]; rfl) | (rw [HE577.out]; rfl) | rfl | (simp [errW_none, errW_some] <;> rfl) | (simp [*, errW_none, errW_some] <;> rfl), by first | exact Kd.R_nil _ _ _ _ _ | exact Kd.N_nil _ _ _ _ _ | exact Kd.V_nil _ _ _ _ _ | exact Kd.Q_nil _ _ _ _ _ | exact Kd.S_nil _ _ _ _ _, by repeat (first | (with_reducible first | exact HB.out | apply below_alloc | apply pw_below_drewN | apply below_drew1 | refine below_set ?_ GE570.out) | exact HB.out)⟩
    ·rw [if_neg c18] at H
     have HE577 := Aside0.mk (show errI (.iface tE pE) t577 = .iface tE pE from if_neg c18)
     have c18b0 : (t577 == 0) = false := beq_eq_false_iff_ne.mpr c18
     have c18b1 : (t577 != 0) = true := bne_iff_ne.mpr c18
     simp only [Option.some.injEq, Prod.mk.injEq] at H
     obtain ⟨rfl, rfl⟩ := H
     have hAq := HAll.out _ HB.out
     have hcz54_0 : wc.cell? ⟨gb570, 0, none⟩ = some (.int .i64 a0_0) := (blk_cell BK570.out 0).trans rfl
     have hcz54_1 : wc.cell? ⟨gb570, 1, none⟩ = some (.slice A0_1 l0_1.length c0_1) := (blk_cell BK570.out 1).trans rfl
     have hcz54_2 : wc.cell? ⟨gb570, 2, none⟩ = some (.slice A0_2 l0_2.length c0_2) := (blk_cell BK570.out 2).trans rfl
     have hcz54_3 : wc.cell? ⟨gb570, 3, none⟩ = some (.int .i64 a0_3) := (blk_cell BK570.out 3).trans rfl
     have hcz54_4 : wc.cell? ⟨gb570, 4, none⟩ = some (.slice A0_4 l0_4.length c0_4) := (blk_cell BK570.out 4).trans rfl
     have hcz54_5 : wc.cell? ⟨gb570, 5, none⟩ = some (.slice A0_5 l0_5.length c0_5) := (blk_cell BK570.out 5).trans rfl
     have hcz54_6 : wc.cell? ⟨gb570, 6, none⟩ = some (.slice A0_6 l0_6.length c0_6) := (blk_cell BK570.out 6).trans rfl
     have hcz54_7 : wc.cell? ⟨gb570, 7, none⟩ = some (.bool a0_7) := (blk_cell BK570.out 7).trans rfl
     have hfz54_0 := blk_frozen BK570.out 0
     have hfz54_1 := blk_frozen BK570.out 1
     have hfz54_2 := blk_frozen BK570.out 2
     have hfz54_3 := blk_frozen BK570.out 3
     have hfz54_4 := blk_frozen BK570.out 4
     have hfz54_5 := blk_frozen BK570.out 5
     have hfz54_6 := blk_frozen BK570.out 6
     have hfz54_7 := blk_frozen BK570.out 7
     go_wp2_with (first | ((with_reducible refine gate_callee (f := 94) rfl ?_); refine goesL_ (some 31) rfl rfl Tryd.func94 (by kernel_rfl) rfl #[.agg #[.int .i64 a0_0, .slice A0_1 l0_1.length c0_1, .slice A0_2 l0_2.length c0_2], .slice A1 l1.length c1] rfl (by (try simp only [List.map_toArray, List.map_cons, List.map_nil]); first | done | rfl | (simp only [List.length_drop, List.length_take]; rfl)) ?_; (with_reducible refine (machine_Run.calls kj3 a0_0 _ _ l0_1 _ _ l0_2 _ _ l1 t574 t577 (.iface tE pE) _ (HAll.out _ (by repeat (first | (with_reducible first | exact HB.out | apply below_alloc | apply pw_below_drewN | apply below_drew1) | exact HB.out))) (Nat.le_trans HL1.out (by decide)) ?side1 ?side2 ?side3 ?side4 ?side5 ?side6 A17.out).mono ?_); (case side1 => repeat (first | exact (Kd.C_below HR0_1.out HB.out) | (with_reducible refine Kd.C_alloc ?_ _) | (with_reducible refine Kd.C_drewN ?_ _) | (with_reducible refine Kd.C_drew ?_))); (case side2 => exact HC0_1.out); (case side3 => repeat (first | exact (Kd.C_below HR0_2.out HB.out) | (with_reducible refine Kd.C_alloc ?_ _) | (with_reducible refine Kd.C_drewN ?_ _) | (with_reducible refine Kd.C_drew ?_))); (case side4 => exact HC0_2.out); (case side5 => repeat (first | exact (Kd.C_below HR1.out HB.out) | (with_reducible refine Kd.C_alloc ?_ _) | (with_reducible refine Kd.C_drewN ?_ _) | (with_reducible refine Kd.C_drew ?_))); (case side6 => exact HC1.out); rintro e w55 ⟨v575, he, ho0, hb⟩; rw [HE577.out] at he; subst he; refine ⟨_, rfl, ?_⟩; have n0_ := Aside0.mk (Kd.R_lower ho0 (below_size (by repeat (first | (with_reducible first | exact HB.out | apply below_alloc | apply pw_below_drewN | apply below_drew1 | refine below_set ?_ GE570.out) | exact HB.out)))); have n1_ := Aside0.mk (blk_below (g := gb570) (o := .cells #[.int .i64 a0_0, .slice A0_1 l0_1.length c0_1, .slice A0_2 l0_2.length c0_2, .int .i64 a0_3, .slice A0_4 l0_4.length c0_4, .slice A0_5 l0_5.length c0_5, .slice A0_6 l0_6.length c0_6, .bool a0_7] 60 (0, 0)) (by (with_reducible repeat (first | refine blk_drewN ?_ _ | refine blk_drew ?_ | refine blk_alloc ?_ _)); exact BK570.out) hb); have n2_ := Aside0.mk (below_step (by repeat (first | (with_reducible first | exact HB.out | apply below_alloc | apply pw_below_drewN | apply below_drew1 | refine below_set ?_ GE570.out) | exact HB.out)) hb); clear BK570; clear HB; have HO576 := n0_; have BK570 := n1_; have HB := n2_; clear n0_ n1_ n2_; (try clear hb); (try clear hb2); (try clear hk); (try clear hi); (try clear ho0)))
     go_ret2
     exact ⟨_, by first | (rw [HE585.out]; rfl) | (rw [HE577.out]; rfl) | rfl | (simp [errW_none, errW_some] <;> rfl) | (simp [*, errW_none, errW_some] <;> rfl), by first | exact Kd.R_nil _ _ _ _ _ | exact Kd.N_nil _ _ _ _ _ | exact Kd.V_nil _ _ _ _ _ | exact Kd.Q_nil _ _ _ _ _ | exact Kd.S_nil _ _ _ _ _, by repeat (first | (with_reducible first | exact HB.out | apply below_alloc | apply pw_below_drewN | apply below_drew1 | refine below_set ?_ GE570.out) | exact HB.out)⟩
end Go.Proofs.YtfonajakaimnoaaDoor.Lib

namespace Go.Proofs.YtfonajakaimnoaaDoor.Lib
open Go.RowKit Go.Proofs.YtfonajakaimnoaaDoorW.PrintWords Go.Proofs.YtfonajakaimnoaaDoorW.PrintLast Go.Proofs.YtfonajakaimnoaaDoorW.PrintMore
attribute [local go_sem] max2_int min2_int max_two min_two max_three min_three max_four min_four   -- for this text's walks alone
set_option linter.unusedVariables false
set_option linter.unusedSimpArgs false
mutual
def pair_Breaks.j0 : Nat → List Int → List Int → Int → Bool → Int → List (List Int) → List (List Int) → Int → List (List Int) → List (List Int) → List Bool → Bool → Option (List Int × Int)
 | 0, _, _, _, _, _, _, _, _, _, _, _, _ => none
 | k + 1, x1, x6, x7, x23, x655000, x655001, x655002, x655003, x655004, x655005, x655006, x655007 => if x23 = true then (some (([] : List Int), x7)) else (pair_Breaks.l0 k x1 (([0] : List Int)) x6 (x6.length : Int) 0 x655000 x655001 x655002 x655003 x655004 x655005 x655006 x655007)
def pair_Breaks.l0 : Nat → List Int → List Int → List Int → Int → Int → Int → List (List Int) → List (List Int) → Int → List (List Int) → List (List Int) → List Bool → Bool → Option (List Int × Int)
 | 0, _, _, _, _, _, _, _, _, _, _, _, _, _ => none
 | k + 1, x1, x8, x26, x27, x28, x655000, x655001, x655002, x655003, x655004, x655005, x655006, x655007 => if x28 < x27 then (if 0 ≤ x28 then (if x28 < (x26.length : Int) then (if (rd x26 x28) ≥ 0 then (if 0 ≤ (rd x26 x28) then (if (rd x26 x28) < (x655006.length : Int) then (if rdOf false x655006 (rd x26 x28) = true then (if x8.length < 17592186044416 then (pair_Breaks.l0 k x1 (x8 ++ [wrap64 (x28 + 1)]) x26 x27 (wrap64 (x28 + 1)) x655000 x655001 x655002 x655003 x655004 x655005 x655006 x655007) else (none)) else (if (rd x26 x28) < 0 then (if x655007 = true then (if x8.length < 17592186044416 then (pair_Breaks.l0 k x1 (x8 ++ [wrap64 (x28 + 1)]) x26 x27 (wrap64 (x28 + 1)) x655000 x655001 x655002 x655003 x655004 x655005 x655006 x655007) else (none)) else (pair_Breaks.l0 k x1 x8 x26 x27 (wrap64 (x28 + 1)) x655000 x655001 x655002 x655003 x655004 x655005 x655006 x655007)) else (pair_Breaks.l0 k x1 x8 x26 x27 (wrap64 (x28 + 1)) x655000 x655001 x655002 x655003 x655004 x655005 x655006 x655007))) else (none)) else (none)) else (if (rd x26 x28) < 0 then (if x655007 = true then (if x8.length < 17592186044416 then (pair_Breaks.l0 k x1 (x8 ++ [wrap64 (x28 + 1)]) x26 x27 (wrap64 (x28 + 1)) x655000 x655001 x655002 x655003 x655004 x655005 x655006 x655007) else (none)) else (pair_Breaks.l0 k x1 x8 x26 x27 (wrap64 (x28 + 1)) x655000 x655001 x655002 x655003 x655004 x655005 x655006 x655007)) else (pair_Breaks.l0 k x1 x8 x26 x27 (wrap64 (x28 + 1)) x655000 x655001 x655002 x655003 x655004 x655005 x655006 x655007))) else (none)) else (none)) else (if x8.length < 17592186044416 then (some ((x8 ++ [(x1.length : Int)]), 0)) else (none))
end
def pair_Breaks.f (k : Nat) (a0_0 : Int) (l0_1 : List (List Int)) (l0_2 : List (List Int)) (a0_3 : Int) (l0_4 : List (List Int)) (l0_5 : List (List Int)) (l0_6 : List Bool) (a0_7 : Bool) (l1 : List Int) : Option (List Int × Int) := (pair_Decide.f k a0_0 l0_1 l0_2 a0_3 l0_4 l0_5 l0_6 a0_7 l1).bind fun bt655 => (if bt655.2 = 0 then (pair_Breaks.j0 k l1 bt655.1 bt655.2 ((l1.length : Int) == 0) a0_0 l0_1 l0_2 a0_3 l0_4 l0_5 l0_6 a0_7) else (pair_Breaks.j0 k l1 bt655.1 bt655.2 true a0_0 l0_1 l0_2 a0_3 l0_4 l0_5 l0_6 a0_7))
set_option maxHeartbeats 8000000 in
set_option maxRecDepth 100000 in
theorem pair_Breaks.calls (k : Nat) (a0_0 : Int) (A0_1 : Option Addr) (c0_1 : Nat) (l0_1 : List (List Int)) (A0_2 : Option Addr) (c0_2 : Nat) (l0_2 : List (List Int)) (a0_3 : Int) (A0_4 : Option Addr) (c0_4 : Nat) (l0_4 : List (List Int)) (A0_5 : Option Addr) (c0_5 : Nat) (l0_5 : List (List Int)) (A0_6 : Option Addr) (c0_6 : Nat) (l0_6 : List Bool) (a0_7 : Bool) (A1 : Option Addr) (c1 : Nat) (l1 : List Int) (r1 : List Int) (r2 : Int) (tE : TypeId) (pE : Value) (w : World) (hA : w.cell? ⟨0, 0, none⟩ = some (.iface tE pE)) (hl1 : l1.length ≤ 17592186043904) (hr0_1 : Kd.C (Kd.slice 3 (Kd.int .i64)) w A0_1 l0_1.length l0_1) (hc0_1 : l0_1.length ≤ c0_1) (hr0_2 : Kd.C (Kd.slice 3 (Kd.int .i64)) w A0_2 l0_2.length l0_2) (hc0_2 : l0_2.length ≤ c0_2) (hr0_4 : Kd.C (Kd.slice 3 (Kd.int .i64)) w A0_4 l0_4.length l0_4) (hc0_4 : l0_4.length ≤ c0_4) (hr0_5 : Kd.C (Kd.slice 3 (Kd.int .i64)) w A0_5 l0_5.length l0_5) (hc0_5 : l0_5.length ≤ c0_5) (hr0_6 : Kd.C Kd.bool w A0_6 l0_6.length l0_6) (hc0_6 : l0_6.length ≤ c0_6) (hr1 : Kd.C (Kd.int .i64) w A1 l1.length l1) (hc1 : l1.length ≤ c1) (h : pair_Breaks.f k a0_0 l0_1 l0_2 a0_3 l0_4 l0_5 l0_6 a0_7 l1 = some (r1, r2)) :
  Calls Tryd.prog 41 #[.agg #[.int .i64 a0_0, .slice A0_1 l0_1.length c0_1, .slice A0_2 l0_2.length c0_2, .int .i64 a0_3, .slice A0_4 l0_4.length c0_4, .slice A0_5 l0_5.length c0_5, .slice A0_6 l0_6.length c0_6, .bool a0_7], .slice A1 l1.length c1] w fun e w' => ∃ v0_ : Value, e = .returned (.tuple #[v0_, errI (.iface tE pE) r2]) ∧ Kd.R (Kd.int .i64) 3 w' w.heap.size (fun _ => True) v0_ r1 ∧ Below w.heap.size w w' := by
 have HAll : Aside0 (∀ W, Below w.heap.size w W → W.cell? ⟨0, 0, none⟩ = some (.iface tE pE)) := ⟨fun W hb => pw_cell_below hb hA⟩
 have HL1 := Aside0.mk hl1
 clear hA hl1
 have hu60 := Tryd.underlying60
 have HR0_1 := Aside0.mk hr0_1
 have HC0_1 := Aside0.mk hc0_1
 clear hr0_1 hc0_1
 have HR0_2 := Aside0.mk hr0_2
 have HC0_2 := Aside0.mk hc0_2
 clear hr0_2 hc0_2
 have HR0_4 := Aside0.mk hr0_4
 have HC0_4 := Aside0.mk hc0_4
 clear hr0_4 hc0_4
 have HR0_5 := Aside0.mk hr0_5
 have HC0_5 := Aside0.mk hc0_5
 clear hr0_5 hc0_5
 have HR0_6 := Aside0.mk hr0_6
 have HC0_6 := Aside0.mk hc0_6
 clear hr0_6 hc0_6
 have HR1 := Aside0.mk hr1
 have HC1 := Aside0.mk hc1
 clear hr1 hc1
 have HB := Aside0.mk (Below.refl w.heap.size w)
 have H : ((pair_Decide.f k a0_0 l0_1 l0_2 a0_3 l0_4 l0_5 l0_6 a0_7 l1).bind fun bt655 => (if bt655.2 = 0 then (pair_Breaks.j0 k l1 bt655.1 bt655.2 ((l1.length : Int) == 0) a0_0 l0_1 l0_2 a0_3 l0_4 l0_5 l0_6 a0_7) else (pair_Breaks.j0 k l1 bt655.1 bt655.2 true a0_0 l0_1 l0_2 a0_3 l0_4 l0_5 l0_6 a0_7))) = some (r1, r2) := h
 clear h
 replace H := Option.bind_eq_some_iff.mp H
 obtain ⟨⟨t655, t658⟩, A30, H⟩ := H
 replace H : (if t658 = 0 then (pair_Breaks.j0 k l1 t655 t658 ((l1.length : Int) == 0) a0_0 l0_1 l0_2 a0_3 l0_4 l0_5 l0_6 a0_7) else (pair_Breaks.j0 k l1 t655 t658 true a0_0 l0_1 l0_2 a0_3 l0_4 l0_5 l0_6 a0_7)) = some (r1, r2) := H
 have A3 := Aside0.mk A30
 clear A30
 have HC4 := Aside0.mk H
 clear H
 go_enter Tryd.func41, Tryd.ntmps41
 go_upto_region 2 with (first | ((with_reducible refine gate_dst (N := 2) rfl ?_); (try (refine gate_guard (by rfl) ?_; dsimp only)); refine box_event ?hg (N := 2) ?hd (cs := #[.int .i64 a0_0, .slice A0_1 l0_1.length c0_1, .slice A0_2 l0_2.length c0_2, .int .i64 a0_3, .slice A0_4 l0_4.length c0_4, .slice A0_5 l0_5.length c0_5, .slice A0_6 l0_6.length c0_6, .bool a0_7]) (t := 60) ?hr ?_; (case hd => rfl); (case hg => rfl); (case hr => first | (go_simp; done) | (go_simp; rfl)); intro gb654 hg w5 hbox hb; have n0_ := Aside0.mk (below_step (by repeat (first | (with_reducible first | exact HB.out | apply below_alloc | apply pw_below_drewN | apply below_drew1) | exact HB.out)) hb); have n1_ := Aside0.mk (hbox); have n2_ := Aside0.mk ((by rw [hg]; exact (below_size (by repeat (first | (with_reducible first | exact HB.out | apply below_alloc | apply pw_below_drewN | apply below_drew1) | exact HB.out))) : w.heap.size ≤ gb654)); have n3_ := Aside0.mk ((by rw [hg]; exact (below_size (by repeat (first | (with_reducible first | exact HB.out | apply below_alloc | apply pw_below_drewN | apply below_drew1) | exact HB.out))) : w.heap.size ≤ gb654)); clear HB; have HB := n0_; have BK654 := n1_; have GW654 := n2_; have GE654 := n3_; clear n0_ n1_ n2_ n3_; clear hb hbox hg; have hcz6_0 : w5.cell? ⟨gb654, 0, none⟩ = some (.int .i64 a0_0) := (blk_cell BK654.out 0).trans rfl; have hcz6_1 : w5.cell? ⟨gb654, 1, none⟩ = some (.slice A0_1 l0_1.length c0_1) := (blk_cell BK654.out 1).trans rfl; have hcz6_2 : w5.cell? ⟨gb654, 2, none⟩ = some (.slice A0_2 l0_2.length c0_2) := (blk_cell BK654.out 2).trans rfl; have hcz6_3 : w5.cell? ⟨gb654, 3, none⟩ = some (.int .i64 a0_3) := (blk_cell BK654.out 3).trans rfl; have hcz6_4 : w5.cell? ⟨gb654, 4, none⟩ = some (.slice A0_4 l0_4.length c0_4) := (blk_cell BK654.out 4).trans rfl; have hcz6_5 : w5.cell? ⟨gb654, 5, none⟩ = some (.slice A0_5 l0_5.length c0_5) := (blk_cell BK654.out 5).trans rfl; have hcz6_6 : w5.cell? ⟨gb654, 6, none⟩ = some (.slice A0_6 l0_6.length c0_6) := (blk_cell BK654.out 6).trans rfl; have hcz6_7 : w5.cell? ⟨gb654, 7, none⟩ = some (.bool a0_7) := (blk_cell BK654.out 7).trans rfl; have hfz6_0 := blk_frozen BK654.out 0; have hfz6_1 := blk_frozen BK654.out 1; have hfz6_2 := blk_frozen BK654.out 2; have hfz6_3 := blk_frozen BK654.out 3; have hfz6_4 := blk_frozen BK654.out 4; have hfz6_5 := blk_frozen BK654.out 5; have hfz6_6 := blk_frozen BK654.out 6; have hfz6_7 := blk_frozen BK654.out 7) | ((with_reducible refine gate_callee (f := 39) rfl ?_); refine goesL_ (some 14) rfl rfl Tryd.func39 (by kernel_rfl) rfl #[.agg #[.int .i64 a0_0, .slice A0_1 l0_1.length c0_1, .slice A0_2 l0_2.length c0_2, .int .i64 a0_3, .slice A0_4 l0_4.length c0_4, .slice A0_5 l0_5.length c0_5, .slice A0_6 l0_6.length c0_6, .bool a0_7], .slice A1 l1.length c1] rfl (by (try simp only [List.map_toArray, List.map_cons, List.map_nil]); first | done | rfl | (simp only [List.length_drop, List.length_take]; rfl)) ?_; (with_reducible refine (pair_Decide.calls k a0_0 _ _ l0_1 _ _ l0_2 a0_3 _ _ l0_4 _ _ l0_5 _ _ l0_6 a0_7 _ _ l1 t655 t658 tE pE _ (HAll.out _ (by repeat (first | (with_reducible first | exact HB.out | apply below_alloc | apply pw_below_drewN | apply below_drew1) | exact HB.out))) HL1.out ?side1 ?side2 ?side3 ?side4 ?side5 ?side6 ?side7 ?side8 ?side9 ?side10 ?side11 ?side12 A3.out).mono ?_); (case side1 => repeat (first | exact (Kd.C_below HR0_1.out HB.out) | (with_reducible refine Kd.C_alloc ?_ _) | (with_reducible refine Kd.C_drewN ?_ _) | (with_reducible refine Kd.C_drew ?_))); (case side2 => exact HC0_1.out); (case side3 => repeat (first | exact (Kd.C_below HR0_2.out HB.out) | (with_reducible refine Kd.C_alloc ?_ _) | (with_reducible refine Kd.C_drewN ?_ _) | (with_reducible refine Kd.C_drew ?_))); (case side4 => exact HC0_2.out); (case side5 => repeat (first | exact (Kd.C_below HR0_4.out HB.out) | (with_reducible refine Kd.C_alloc ?_ _) | (with_reducible refine Kd.C_drewN ?_ _) | (with_reducible refine Kd.C_drew ?_))); (case side6 => exact HC0_4.out); (case side7 => repeat (first | exact (Kd.C_below HR0_5.out HB.out) | (with_reducible refine Kd.C_alloc ?_ _) | (with_reducible refine Kd.C_drewN ?_ _) | (with_reducible refine Kd.C_drew ?_))); (case side8 => exact HC0_5.out); (case side9 => repeat (first | exact (Kd.C_below HR0_6.out HB.out) | (with_reducible refine Kd.C_alloc ?_ _) | (with_reducible refine Kd.C_drewN ?_ _) | (with_reducible refine Kd.C_drew ?_))); (case side10 => exact HC0_6.out); (case side11 => repeat (first | exact (Kd.C_below HR1.out HB.out) | (with_reducible refine Kd.C_alloc ?_ _) | (with_reducible refine Kd.C_drewN ?_ _) | (with_reducible refine Kd.C_drew ?_))); (case side12 => exact HC1.out); rintro e w7 ⟨v656, rfl, ho0, hb⟩; refine ⟨_, rfl, ?_⟩; have n0_ := Aside0.mk (Kd.R_lower ho0 (below_size (by repeat (first | (with_reducible first | exact HB.out | apply below_alloc | apply pw_below_drewN | apply below_drew1 | refine below_set ?_ GE654.out) | exact HB.out)))); have n1_ := Aside0.mk (blk_below (g := gb654) (o := .cells #[.int .i64 a0_0, .slice A0_1 l0_1.length c0_1, .slice A0_2 l0_2.length c0_2, .int .i64 a0_3, .slice A0_4 l0_4.length c0_4, .slice A0_5 l0_5.length c0_5, .slice A0_6 l0_6.length c0_6, .bool a0_7] 60 (0, 0)) (by (with_reducible repeat (first | refine blk_drewN ?_ _ | refine blk_drew ?_ | refine blk_alloc ?_ _)); exact BK654.out) hb); have n2_ := Aside0.mk (below_step (by repeat (first | (with_reducible first | exact HB.out | apply below_alloc | apply pw_below_drewN | apply below_drew1 | refine below_set ?_ GE654.out) | exact HB.out)) hb); clear BK654; clear HB; have HO657 := n0_; have BK654 := n1_; have HB := n2_; clear n0_ n1_ n2_; (try clear hb); (try clear hb2); (try clear hk); (try clear hi); (try clear ho0)))
 (try simp only [Act.put, List.setIfInBounds_toArray, List.set_cons_zero, List.set_cons_succ])
 go_cut [23] (fun v23 wc => ∃ (kq : Nat) (x23_3 : Bool), v23 = .bool x23_3 ∧ Aside0 (pair_Breaks.j0 kq l1 t655 t658 x23_3 a0_0 l0_1 l0_2 a0_3 l0_4 l0_5 l0_6 a0_7 = some (r1, r2)) ∧ Aside0 (kq ≤ k) ∧ Aside0 (Kd.R (Kd.int .i64) 3 wc w.heap.size (fun _ => True) v656 t655) ∧ Aside0 (wc.heap[gb654]? = some (.cells #[.int .i64 a0_0, (.slice A0_1 l0_1.length c0_1), (.slice A0_2 l0_2.length c0_2), .int .i64 a0_3, (.slice A0_4 l0_4.length c0_4), (.slice A0_5 l0_5.length c0_5), (.slice A0_6 l0_6.length c0_6), .bool a0_7] 60 (0, 0))) ∧ Aside0 (Below w.heap.size w wc))
 case first =>
  have H := HC4.out
  clear HC4
  by_cases c8 : t658 = 0
  ·rw [if_pos c8] at H
   have hq8 : ∀ W : World, (binOp .neq 30 (errI (.iface tE pE) t658) .nilIface).run Tryd.prog W = .ok (.bool false) W := fun W => by
    rw [show errI (.iface tE pE) t658 = .nilIface from if_pos c8]
    exact run_neq_nil_nil (P := Tryd.prog) (w := W) 30 (by kernel_rfl)
   have hg8 : ∀ W : World, (eqGuard .neq 30 (.tmp 17) (.const .nilIface) (errI (.iface tE pE) t658) .nilIface).run Tryd.prog W = .ok () W := fun W => by
    rw [show errI (.iface tE pE) t658 = .nilIface from if_pos c8]
    rfl
   have c8b0 : (t658 == 0) = true := beq_iff_eq.mpr c8
   have c8b1 : (t658 != 0) = false := bne_eq_false_iff_eq.mpr c8
   clear c8
   (first | rw [c8b0] | (simp only [i64_w, i32_w]; rw [c8b0]) | skip)
   have H' := Aside0.mk H
   clear H
   go_wp2
   go_meet
   case rel => exact ⟨_, (((l1.length : Int) == 0)), (by first | rfl | (simp; done) | (simp [*]; done)), H', ⟨by first | omega | exact Nat.le_refl _⟩, ⟨by (with_reducible repeat (first | apply Kd.R_alloc | apply Kd.R_drewN | apply Kd.R_drew)); exact HO657.out⟩, ⟨by (with_reducible repeat (first | refine blk_drewN ?_ _ | refine blk_drew ?_ | refine blk_alloc ?_ _)); exact BK654.out⟩, ⟨by repeat (first | (with_reducible first | exact HB.out | apply below_alloc | apply pw_below_drewN | apply below_drew1 | refine below_set ?_ GE654.out) | exact HB.out)⟩⟩
  ·rw [if_neg c8] at H
   have hq8 : ∀ W : World, (binOp .neq 30 (errI (.iface tE pE) t658) .nilIface).run Tryd.prog W = .ok (.bool true) W := fun W => by
    rw [show errI (.iface tE pE) t658 = .iface tE pE from if_neg c8]
    exact run_neq_held_nil (P := Tryd.prog) (w := W) 30 tE pE (by kernel_rfl)
   have hg8 : ∀ W : World, (eqGuard .neq 30 (.tmp 17) (.const .nilIface) (errI (.iface tE pE) t658) .nilIface).run Tryd.prog W = .ok () W := fun W => by
    rw [show errI (.iface tE pE) t658 = .iface tE pE from if_neg c8]
    rfl
   have c8b0 : (t658 == 0) = false := beq_eq_false_iff_ne.mpr c8
   have c8b1 : (t658 != 0) = true := bne_iff_ne.mpr c8
   (first | rw [c8b0] | (simp only [i64_w, i32_w]; rw [c8b0]) | skip)
   have H' := Aside0.mk H
   clear H
   go_wp2
   go_meet
   case rel => exact ⟨_, (true), (by first | rfl | (simp; done) | (simp [*]; done)), H', ⟨by first | omega | exact Nat.le_refl _⟩, ⟨by (with_reducible repeat (first | apply Kd.R_alloc | apply Kd.R_drewN | apply Kd.R_drew)); exact HO657.out⟩, ⟨by (with_reducible repeat (first | refine blk_drewN ?_ _ | refine blk_drew ?_ | refine blk_alloc ?_ _)); exact BK654.out⟩, ⟨by repeat (first | (with_reducible first | exact HB.out | apply below_alloc | apply pw_below_drewN | apply below_drew1 | refine below_set ?_ GE654.out) | exact HB.out)⟩⟩
 case rest =>
  clear HC4
  try clear c1
  try clear p2
  try clear c3
  try clear c4
  try clear c8
  try clear c8b0
  try clear c8b1
  try clear hcz6_0
  try clear hcz6_1
  try clear hcz6_2
  try clear hcz6_3
  try clear hcz6_4
  try clear hcz6_5
  try clear hcz6_6
  try clear hcz6_7
  try clear hfz6_0
  try clear hfz6_1
  try clear hfz6_2
  try clear hfz6_3
  try clear hfz6_4
  try clear hfz6_5
  try clear hfz6_6
  try clear hfz6_7
  obtain ⟨kq, x23_3, rfl, HA, HJ3, HO_6, BK654, HB⟩ := hcut
  cases kq with
  | zero => exact absurd HA.out (by simp [pair_Breaks.j0])
  | succ kj3 =>
   have H := HA.out
   clear HA
   simp only [pair_Breaks.j0] at H
   by_cases c9 : x23_3 = true
   ·subst c9
    have H1 : (some (([] : List Int), t658)) = some (r1, r2) := by rw [if_pos rfl] at H; exact H
    clear H
    have H := H1
    clear H1
    simp only [Option.some.injEq, Prod.mk.injEq] at H
    obtain ⟨rfl, rfl⟩ := H
    go_wp2
    go_ret2
    exact ⟨_, by first | rfl | (simp [errW_none, errW_some] <;> rfl) | (simp [*, errW_none, errW_some] <;> rfl), by first | exact Kd.R_nil _ _ _ _ _ | exact Kd.N_nil _ _ _ _ _ | exact Kd.V_nil _ _ _ _ _ | exact Kd.Q_nil _ _ _ _ _ | exact Kd.S_nil _ _ _ _ _, by repeat (first | (with_reducible first | exact HB.out | apply below_alloc | apply pw_below_drewN | apply below_drew1 | refine below_set ?_ GE654.out) | exact HB.out)⟩
   ·replace c9 := Bool.eq_false_iff.mpr c9
    subst c9
    have H1 : (pair_Breaks.l0 kj3 l1 (([0] : List Int)) t655 (t655.length : Int) 0 a0_0 l0_1 l0_2 a0_3 l0_4 l0_5 l0_6 a0_7) = some (r1, r2) := by rw [if_neg (show ¬ (false = true) by decide)] at H; exact H
    clear H
    have H := H1
    clear H1
    obtain ⟨y659, hy659⟩ : ∃ y_ : List Int, y_ = (([0] : List Int)) := ⟨_, rfl⟩
    replace H : (pair_Breaks.l0 kj3 l1 y659 t655 (t655.length : Int) 0 a0_0 l0_1 l0_2 a0_3 l0_4 l0_5 l0_6 a0_7) = some (r1, r2) := by first | (rw [hy659]; with_reducible exact H) | (have H2_ := (Option.bind_some _ _).symm.trans H; rw [hy659]; with_reducible exact H2_) | (have H2_ := (Option.bind_some _ _).symm.trans H; with_reducible exact H2_) | with_reducible exact H | (rw [hy659]; exact H) | exact H
    have Ny659 := Aside0.mk hy659
    clear hy659
    have H' := Aside0.mk H
    clear H
    go_wp2_with (first | ((with_reducible refine gate_dst (N := 25) rfl ?_); (try (refine gate_guard (by rfl) ?_; dsimp only)); refine Kd.R_lit (Kd.int .i64) _ 3 ?hg (N := 25) ?hd (xs := ([0] : List Int)) (inner := [.int .i64 0]) (ok := fun _ => True) (okp := fun _ => True) ?hr ?hp (fun _ hk => hk) trivial (Below.refl _ _) (Nat.le_refl _) (by simp) ?_; (case hd => rfl); (case hg => rfl); (case hr => first | (go_simp; done) | (go_simp; rfl)); (case hp => exact (Reps.one (show Kd.M (Kd.int .i64) _ _ _ 0 [.int .i64 0] from rfl) (Reps.none _ _))); intro v660 w10 ho11 hb hg_ hnew_; clear hg_ hnew_; (first | rw [← Ny659.out] at ho11 | (simp only [Int.reduceToNat] at ho11; rw [← Ny659.out] at ho11)); have n0_ := Aside0.mk (Kd.R_elder' (by (with_reducible repeat (first | apply Kd.R_alloc | apply Kd.R_drewN | apply Kd.R_drew)); exact HO_6.out) (Kd.R_base ho11) hb); have n1_ := Aside0.mk (Kd.R_lower (Kd.R_new' ho11 (Kd.R_lt (by (with_reducible repeat (first | apply Kd.R_alloc | apply Kd.R_drewN | apply Kd.R_drew)); exact HO_6.out))) (below_size (by repeat (first | (with_reducible first | exact HB.out | apply below_alloc | apply pw_below_drewN | apply below_drew1 | refine below_set ?_ GE654.out) | exact HB.out)))); have n2_ := Aside0.mk (blk_below (g := gb654) (o := .cells #[.int .i64 a0_0, .slice A0_1 l0_1.length c0_1, .slice A0_2 l0_2.length c0_2, .int .i64 a0_3, .slice A0_4 l0_4.length c0_4, .slice A0_5 l0_5.length c0_5, .slice A0_6 l0_6.length c0_6, .bool a0_7] 60 (0, 0)) (by (with_reducible repeat (first | refine blk_drewN ?_ _ | refine blk_drew ?_ | refine blk_alloc ?_ _)); exact BK654.out) hb); have n3_ := Aside0.mk (below_step (by repeat (first | (with_reducible first | exact HB.out | apply below_alloc | apply pw_below_drewN | apply below_drew1 | refine below_set ?_ GE654.out) | exact HB.out)) hb); clear HO_6; clear BK654; clear HB; have HO_6 := n0_; have HO661 := n1_; have BK654 := n2_; have HB := n3_; clear n0_ n1_ n2_ n3_; clear hb ho11; obtain ⟨Ao12, co12, eo12⟩ := Kd.R_slice HO_6.out; subst eo12))
    go_loopg [8, 28] kj3 (fun kq v8 v28 w' => ∃ (x8_2 : List Int) (x28_2 : Int), v28 = .int .i64 x28_2 ∧ Aside0 (pair_Breaks.l0 kq l1 x8_2 t655 (t655.length : Int) x28_2 a0_0 l0_1 l0_2 a0_3 l0_4 l0_5 l0_6 a0_7 = some (r1, r2)) ∧ Aside0 (kq ≤ kj3) ∧ Aside0 (Kd.R (Kd.int .i64) 3 w' w.heap.size (fun k_ => some k_ ≠ ((.slice Ao12 t655.length co12) : Value).ownBlock) v8 x8_2) ∧ Aside0 (Kd.R (Kd.int .i64) 3 w' w.heap.size (fun k_ => some k_ ≠ (v8 : Value).ownBlock) (.slice Ao12 t655.length co12) t655) ∧ Aside0 (w'.heap[gb654]? = some (.cells #[.int .i64 a0_0, (.slice A0_1 l0_1.length c0_1), (.slice A0_2 l0_2.length c0_2), .int .i64 a0_3, (.slice A0_4 l0_4.length c0_4), (.slice A0_5 l0_5.length c0_5), (.slice A0_6 l0_6.length c0_6), .bool a0_7] 60 (0, 0))) ∧ Aside0 (Below w.heap.size w w'))
    case atStart => exact ⟨(y659), (0), (by first | rfl | (simp; done) | (simp [*]; done)), H', ⟨Nat.le_refl _⟩, ⟨by (with_reducible repeat (first | apply Kd.R_alloc | apply Kd.R_drewN | apply Kd.R_drew)); exact Kd.R_mono HO661.out (fun _ hk => hk.2)⟩, ⟨by (with_reducible repeat (first | apply Kd.R_alloc | apply Kd.R_drewN | apply Kd.R_drew)); exact Kd.R_mono HO_6.out (fun _ hk => hk.2)⟩, ⟨by (with_reducible repeat (first | refine blk_drewN ?_ _ | refine blk_drew ?_ | refine blk_alloc ?_ _)); exact BK654.out⟩, ⟨by repeat (first | (with_reducible first | exact HB.out | apply below_alloc | apply pw_below_drewN | apply below_drew1 | refine below_set ?_ GE654.out) | exact HB.out)⟩⟩
    case round =>
     clear H'
     try clear c1
     try clear p2
     try clear c3
     try clear c4
     try clear c8
     try clear c8b0
     try clear c8b1
     try clear c9
     try clear hcz6_0
     try clear hcz6_1
     try clear hcz6_2
     try clear hcz6_3
     try clear hcz6_4
     try clear hcz6_5
     try clear hcz6_6
     try clear hcz6_7
     try clear hfz6_0
     try clear hfz6_1
     try clear hfz6_2
     try clear hfz6_3
     try clear hfz6_4
     try clear hfz6_5
     try clear hfz6_6
     try clear hfz6_7
     try clear p2
     obtain ⟨x8_2, x28_2, rfl, HA, HK2, HO_8, HO_26, BK654, HB⟩ := hrel
     cases gk with
     | zero => exact absurd HA.out (by simp [pair_Breaks.l0])
     | succ k2 =>
      have H := HA.out
      clear HA
      simp only [pair_Breaks.l0] at H
      by_cases c13 : x28_2 < (t655.length : Int)
      ·rw [if_pos c13] at H
       have c13b0 : decide (x28_2 < (t655.length : Int)) = true := decide_eq_true c13
       clear c13
       by_cases c14 : 0 ≤ x28_2
       ·rw [if_pos c14] at H
        have c14b0 : decide (0 ≤ x28_2) = true := decide_eq_true c14
        clear c14
        by_cases c15 : x28_2 < (t655.length : Int)
        ·rw [if_pos c15] at H
         have c15b0 : decide (x28_2 < (t655.length : Int)) = true := decide_eq_true c15
         clear c15
         by_cases c16 : (rd t655 x28_2) ≥ 0
         ·rw [if_pos c16] at H
          have c16b0 : decide (0 ≤ (rd t655 x28_2)) = true := decide_eq_true c16
          clear c16
          by_cases c17 : 0 ≤ (rd t655 x28_2)
          ·rw [if_pos c17] at H
           have c17b0 : decide (0 ≤ (rd t655 x28_2)) = true := decide_eq_true c17
           clear c17
           by_cases c18 : (rd t655 x28_2) < (l0_6.length : Int)
           ·rw [if_pos c18] at H
            have c18b0 : decide ((rd t655 x28_2) < (l0_6.length : Int)) = true := decide_eq_true c18
            clear c18
            obtain ⟨bq19, hbq19⟩ : ∃ b_ : Bool, b_ = (rdOf false l0_6 (rd t655 x28_2)) := ⟨_, rfl⟩
            replace H : (if bq19 = true then (if x8_2.length < 17592186044416 then (pair_Breaks.l0 k2 l1 (x8_2 ++ [wrap64 (x28_2 + 1)]) t655 (t655.length : Int) (wrap64 (x28_2 + 1)) a0_0 l0_1 l0_2 a0_3 l0_4 l0_5 l0_6 a0_7) else (none)) else (if (rd t655 x28_2) < 0 then (if a0_7 = true then (if x8_2.length < 17592186044416 then (pair_Breaks.l0 k2 l1 (x8_2 ++ [wrap64 (x28_2 + 1)]) t655 (t655.length : Int) (wrap64 (x28_2 + 1)) a0_0 l0_1 l0_2 a0_3 l0_4 l0_5 l0_6 a0_7) else (none)) else (pair_Breaks.l0 k2 l1 x8_2 t655 (t655.length : Int) (wrap64 (x28_2 + 1)) a0_0 l0_1 l0_2 a0_3 l0_4 l0_5 l0_6 a0_7)) else (pair_Breaks.l0 k2 l1 x8_2 t655 (t655.length : Int) (wrap64 (x28_2 + 1)) a0_0 l0_1 l0_2 a0_3 l0_4 l0_5 l0_6 a0_7))) = some (r1, r2) := by rw [← hbq19] at H; exact H
            have Nbq19 := Aside0.mk hbq19
            clear hbq19
            by_cases c20 : bq19 = true
            ·subst c20
             have H1 : (if x8_2.length < 17592186044416 then (pair_Breaks.l0 k2 l1 (x8_2 ++ [wrap64 (x28_2 + 1)]) t655 (t655.length : Int) (wrap64 (x28_2 + 1)) a0_0 l0_1 l0_2 a0_3 l0_4 l0_5 l0_6 a0_7) else (none)) = some (r1, r2) := by rw [if_pos rfl] at H; exact H
             clear H
             have H := H1
             clear H1
             by_cases c21 : x8_2.length < 17592186044416
             ·rw [if_pos c21] at H
              have LMc21 := Aside0.mk c21
              clear c21
              obtain ⟨y664, hy664⟩ : ∃ y_ : List Int, y_ = (x8_2 ++ [wrap64 (x28_2 + 1)]) := ⟨_, rfl⟩
              replace H : (pair_Breaks.l0 k2 l1 y664 t655 (t655.length : Int) (wrap64 (x28_2 + 1)) a0_0 l0_1 l0_2 a0_3 l0_4 l0_5 l0_6 a0_7) = some (r1, r2) := by first | (rw [hy664]; with_reducible exact H) | (have H2_ := (Option.bind_some _ _).symm.trans H; rw [hy664]; with_reducible exact H2_) | (have H2_ := (Option.bind_some _ _).symm.trans H; with_reducible exact H2_) | with_reducible exact H | (rw [hy664]; exact H) | exact H
              have Ny664 := Aside0.mk hy664
              clear hy664
              have H' := Aside0.mk H
              clear H
              have p662 : 0 ≤ (x28_2 : Int) := of_decide_eq_true (by first | (with_reducible assumption) | assumption)
              have q662 : x28_2 < (t655.length : Int) := of_decide_eq_true (by first | (with_reducible assumption) | assumption)
              obtain ⟨ad662, e662, hx662_0⟩ := Kd.at_int (Kd.R_reads' HO_26.out).2.2 x28_2 p662 q662
              cases e662
              replace p662 := eq_true p662
              replace q662 := eq_true q662
              have hcz22_0 : wr.cell? ⟨gb654, 0, none⟩ = some (.int .i64 a0_0) := (blk_cell BK654.out 0).trans rfl
              have hcz22_1 : wr.cell? ⟨gb654, 1, none⟩ = some (.slice A0_1 l0_1.length c0_1) := (blk_cell BK654.out 1).trans rfl
              have hcz22_2 : wr.cell? ⟨gb654, 2, none⟩ = some (.slice A0_2 l0_2.length c0_2) := (blk_cell BK654.out 2).trans rfl
              have hcz22_3 : wr.cell? ⟨gb654, 3, none⟩ = some (.int .i64 a0_3) := (blk_cell BK654.out 3).trans rfl
              have hcz22_4 : wr.cell? ⟨gb654, 4, none⟩ = some (.slice A0_4 l0_4.length c0_4) := (blk_cell BK654.out 4).trans rfl
              have hcz22_5 : wr.cell? ⟨gb654, 5, none⟩ = some (.slice A0_5 l0_5.length c0_5) := (blk_cell BK654.out 5).trans rfl
              have hcz22_6 : wr.cell? ⟨gb654, 6, none⟩ = some (.slice A0_6 l0_6.length c0_6) := (blk_cell BK654.out 6).trans rfl
              have hcz22_7 : wr.cell? ⟨gb654, 7, none⟩ = some (.bool a0_7) := (blk_cell BK654.out 7).trans rfl
              have hfz22_0 := blk_frozen BK654.out 0
              have hfz22_1 := blk_frozen BK654.out 1
              have hfz22_2 := blk_frozen BK654.out 2
              have hfz22_3 := blk_frozen BK654.out 3
              have hfz22_4 := blk_frozen BK654.out 4
              have hfz22_5 := blk_frozen BK654.out 5
              have hfz22_6 := blk_frozen BK654.out 6
              have hfz22_7 := blk_frozen BK654.out 7
              have p663 : 0 ≤ ((rd t655 x28_2) : Int) := of_decide_eq_true (by first | (with_reducible assumption) | assumption)
              have q663 : (rd t655 x28_2) < (l0_6.length : Int) := of_decide_eq_true (by first | (with_reducible assumption) | assumption)
              obtain ⟨ad663, e663, hx663_0⟩ := Kd.at_bool HR0_6.out (rd t655 x28_2) p663 q663
              (try rw [← Nbq19.out] at hx663_0)
              cases e663
              replace hx663_0 := (HB.out.cell (World.block_lt_of_cell? w _ hx663_0)).trans hx663_0
              replace p663 := eq_true p663
              replace q663 := eq_true q663
              go_wp2_with (first | ((with_reducible refine gate_builtin (b := .append) (xs := #[.tmp 50, .tmp 53]) rfl ?_); (try (refine gate_guard (by rfl) ?_; dsimp only)); at_builtin; refine Kd.R_append (Kd.int .i64) (w0 := w) w.heap.size rfl (.tmp 50) (.tmp 53) 25 3 (.int .i64 0) 8 rfl Tryd.underlying25 info3 rfl (by decide) (by omega) u8 x8_2 (wrap64 (x28_2 + 1)) [.int .i64 (wrap64 (x28_2 + 1))] (fun k_ => some k_ ≠ (.slice (some ad662) t655.length co12 : Value).ownBlock) (fun _ => False) rfl rfl ?aP (fun _ hk => hk.elim) ?aF ?aO ?aB ?aS ?aL ?_; (case aP => exact rfl); (case aB => exact (by repeat (first | (with_reducible first | exact HB.out | apply below_alloc | apply pw_below_drewN | apply below_drew1 | refine below_set ?_ GE654.out) | exact HB.out))); (case aF => exact (fun k_ hk => Kd.fresh' (Kd.R_lt (by (with_reducible repeat (first | apply Kd.R_alloc | apply Kd.R_drewN | apply Kd.R_drew)); exact HO_26.out)) k_ hk)); (case aO => exact (by (with_reducible repeat (first | apply Kd.R_alloc | apply Kd.R_drewN | apply Kd.R_drew)); exact HO_8.out)); (case aS => exact (below_size (by repeat (first | (with_reducible first | exact HB.out | apply below_alloc | apply pw_below_drewN | apply below_drew1 | refine below_set ?_ GE654.out) | exact HB.out)))); (case aL => have := LMc21.out; omega); intro v665 w23 ho hb hg hat; rw [← Ny664.out] at ho; have n0_ := Aside0.mk (Kd.R_after (ok := (fun _ => True)) (by (with_reducible repeat (first | apply Kd.R_alloc | apply Kd.R_drewN | apply Kd.R_drew)); exact Kd.R_mono HO_26.out (fun _ hk => ⟨trivial, hk⟩)) hg hat); have n1_ := Aside0.mk (blk_grown (g := gb654) (o := .cells #[.int .i64 a0_0, .slice A0_1 l0_1.length c0_1, .slice A0_2 l0_2.length c0_2, .int .i64 a0_3, .slice A0_4 l0_4.length c0_4, .slice A0_5 l0_5.length c0_5, .slice (some ad663) l0_6.length c0_6, .bool a0_7] 60 (0, 0)) (by (with_reducible repeat (first | refine blk_drewN ?_ _ | refine blk_drew ?_ | refine blk_alloc ?_ _)); exact BK654.out) hg (Kd.R_ne HO_8.out BK654.out (by decide))); have n2_ := Aside0.mk (hb); have n3_ := Aside0.mk (ho); clear HO_26; clear BK654; clear HB; clear HO_8; have HO_26 := n0_; have BK654 := n1_; have HB := n2_; have HO666 := n3_; clear n0_ n1_ n2_ n3_; clear ho hb hg hat))
              go_roundg k2
              case measure => have := HJ3.out; have := HK2.out; omega
              case rel => exact ⟨(y664), (wrap64 (x28_2 + 1)), (by first | rfl | (simp; done) | (simp [*]; done)), H', ⟨by have := HJ3.out; have := HK2.out; omega⟩, ⟨by (with_reducible repeat (first | apply Kd.R_alloc | apply Kd.R_drewN | apply Kd.R_drew)); exact HO666.out⟩, ⟨by (with_reducible repeat (first | apply Kd.R_alloc | apply Kd.R_drewN | apply Kd.R_drew)); exact Kd.R_mono HO_26.out (fun _ hk => hk.2)⟩, ⟨by (with_reducible repeat (first | refine blk_drewN ?_ _ | refine blk_drew ?_ | refine blk_alloc ?_ _)); exact BK654.out⟩, ⟨by repeat (first | (with_reducible first | exact HB.out | apply below_alloc | apply pw_below_drewN | apply below_drew1 | refine below_set ?_ GE654.out) | exact HB.out)⟩⟩
             ·rw [if_neg c21] at H
              exact absurd H (by simp)
            ·replace c20 := Bool.eq_false_iff.mpr c20
             subst c20
             have H1 : (if (rd t655 x28_2) < 0 then (if a0_7 = true then (if x8_2.length < 17592186044416 then (pair_Breaks.l0 k2 l1 (x8_2 ++ [wrap64 (x28_2 + 1)]) t655 (t655.length : Int) (wrap64 (x28_2 + 1)) a0_0 l0_1 l0_2 a0_3 l0_4 l0_5 l0_6 a0_7) else (none)) else (pair_Breaks.l0 k2 l1 x8_2 t655 (t655.length : Int) (wrap64 (x28_2 + 1)) a0_0 l0_1 l0_2 a0_3 l0_4 l0_5 l0_6 a0_7)) else (pair_Breaks.l0 k2 l1 x8_2 t655 (t655.length : Int) (wrap64 (x28_2 + 1)) a0_0 l0_1 l0_2 a0_3 l0_4 l0_5 l0_6 a0_7)) = some (r1, r2) := by rw [if_neg (show ¬ (false = true) by decide)] at H; exact H
             clear H
             have H := H1
             clear H1
             by_cases c24 : (rd t655 x28_2) < 0
             ·rw [if_pos c24] at H
              have c24b0 : decide ((rd t655 x28_2) < 0) = true := decide_eq_true c24
              clear c24
              by_cases c25 : a0_7 = true
              ·subst c25
               have H1 : (if x8_2.length < 17592186044416 then (pair_Breaks.l0 k2 l1 (x8_2 ++ [wrap64 (x28_2 + 1)]) t655 (t655.length : Int) (wrap64 (x28_2 + 1)) a0_0 l0_1 l0_2 a0_3 l0_4 l0_5 l0_6 true) else (none)) = some (r1, r2) := by rw [if_pos rfl] at H; exact H
               clear H
               have H := H1
               clear H1
               by_cases c26 : x8_2.length < 17592186044416
               ·rw [if_pos c26] at H
                have LMc26 := Aside0.mk c26
                clear c26
                obtain ⟨y667, hy667⟩ : ∃ y_ : List Int, y_ = (x8_2 ++ [wrap64 (x28_2 + 1)]) := ⟨_, rfl⟩
                replace H : (pair_Breaks.l0 k2 l1 y667 t655 (t655.length : Int) (wrap64 (x28_2 + 1)) a0_0 l0_1 l0_2 a0_3 l0_4 l0_5 l0_6 true) = some (r1, r2) := by first | (rw [hy667]; with_reducible exact H) | (have H2_ := (Option.bind_some _ _).symm.trans H; rw [hy667]; with_reducible exact H2_) | (have H2_ := (Option.bind_some _ _).symm.trans H; with_reducible exact H2_) | with_reducible exact H | (rw [hy667]; exact H) | exact H
                have Ny667 := Aside0.mk hy667
                clear hy667
                have H' := Aside0.mk H
                clear H
                have p662 : 0 ≤ (x28_2 : Int) := of_decide_eq_true (by first | (with_reducible assumption) | assumption)
                have q662 : x28_2 < (t655.length : Int) := of_decide_eq_true (by first | (with_reducible assumption) | assumption)
                obtain ⟨ad662, e662, hx662_0⟩ := Kd.at_int (Kd.R_reads' HO_26.out).2.2 x28_2 p662 q662
                cases e662
                replace p662 := eq_true p662
                replace q662 := eq_true q662
                have hcz27_0 : wr.cell? ⟨gb654, 0, none⟩ = some (.int .i64 a0_0) := (blk_cell BK654.out 0).trans rfl
                have hcz27_1 : wr.cell? ⟨gb654, 1, none⟩ = some (.slice A0_1 l0_1.length c0_1) := (blk_cell BK654.out 1).trans rfl
                have hcz27_2 : wr.cell? ⟨gb654, 2, none⟩ = some (.slice A0_2 l0_2.length c0_2) := (blk_cell BK654.out 2).trans rfl
                have hcz27_3 : wr.cell? ⟨gb654, 3, none⟩ = some (.int .i64 a0_3) := (blk_cell BK654.out 3).trans rfl
                have hcz27_4 : wr.cell? ⟨gb654, 4, none⟩ = some (.slice A0_4 l0_4.length c0_4) := (blk_cell BK654.out 4).trans rfl
                have hcz27_5 : wr.cell? ⟨gb654, 5, none⟩ = some (.slice A0_5 l0_5.length c0_5) := (blk_cell BK654.out 5).trans rfl
                have hcz27_6 : wr.cell? ⟨gb654, 6, none⟩ = some (.slice A0_6 l0_6.length c0_6) := (blk_cell BK654.out 6).trans rfl
                have hcz27_7 : wr.cell? ⟨gb654, 7, none⟩ = some (.bool true) := (blk_cell BK654.out 7).trans rfl
                have hfz27_0 := blk_frozen BK654.out 0
                have hfz27_1 := blk_frozen BK654.out 1
                have hfz27_2 := blk_frozen BK654.out 2
                have hfz27_3 := blk_frozen BK654.out 3
                have hfz27_4 := blk_frozen BK654.out 4
                have hfz27_5 := blk_frozen BK654.out 5
                have hfz27_6 := blk_frozen BK654.out 6
                have hfz27_7 := blk_frozen BK654.out 7
                have p663 : 0 ≤ ((rd t655 x28_2) : Int) := of_decide_eq_true (by first | (with_reducible assumption) | assumption)
                have q663 : (rd t655 x28_2) < (l0_6.length : Int) := of_decide_eq_true (by first | (with_reducible assumption) | assumption)
                obtain ⟨ad663, e663, hx663_0⟩ := Kd.at_bool HR0_6.out (rd t655 x28_2) p663 q663
                (try rw [← Nbq19.out] at hx663_0)
                cases e663
                replace hx663_0 := (HB.out.cell (World.block_lt_of_cell? w _ hx663_0)).trans hx663_0
                replace p663 := eq_true p663
                replace q663 := eq_true q663
                go_wp2_with (first | ((with_reducible refine gate_builtin (b := .append) (xs := #[.tmp 50, .tmp 53]) rfl ?_); (try (refine gate_guard (by rfl) ?_; dsimp only)); at_builtin; refine Kd.R_append (Kd.int .i64) (w0 := w) w.heap.size rfl (.tmp 50) (.tmp 53) 25 3 (.int .i64 0) 8 rfl Tryd.underlying25 info3 rfl (by decide) (by omega) u8 x8_2 (wrap64 (x28_2 + 1)) [.int .i64 (wrap64 (x28_2 + 1))] (fun k_ => some k_ ≠ (.slice (some ad662) t655.length co12 : Value).ownBlock) (fun _ => False) rfl rfl ?aP (fun _ hk => hk.elim) ?aF ?aO ?aB ?aS ?aL ?_; (case aP => exact rfl); (case aB => exact (by repeat (first | (with_reducible first | exact HB.out | apply below_alloc | apply pw_below_drewN | apply below_drew1 | refine below_set ?_ GE654.out) | exact HB.out))); (case aF => exact (fun k_ hk => Kd.fresh' (Kd.R_lt (by (with_reducible repeat (first | apply Kd.R_alloc | apply Kd.R_drewN | apply Kd.R_drew)); exact HO_26.out)) k_ hk)); (case aO => exact (by (with_reducible repeat (first | apply Kd.R_alloc | apply Kd.R_drewN | apply Kd.R_drew)); exact HO_8.out)); (case aS => exact (below_size (by repeat (first | (with_reducible first | exact HB.out | apply below_alloc | apply pw_below_drewN | apply below_drew1 | refine below_set ?_ GE654.out) | exact HB.out)))); (case aL => have := LMc26.out; omega); intro v668 w28 ho hb hg hat; rw [← Ny667.out] at ho; have n0_ := Aside0.mk (Kd.R_after (ok := (fun _ => True)) (by (with_reducible repeat (first | apply Kd.R_alloc | apply Kd.R_drewN | apply Kd.R_drew)); exact Kd.R_mono HO_26.out (fun _ hk => ⟨trivial, hk⟩)) hg hat); have n1_ := Aside0.mk (blk_grown (g := gb654) (o := .cells #[.int .i64 a0_0, .slice A0_1 l0_1.length c0_1, .slice A0_2 l0_2.length c0_2, .int .i64 a0_3, .slice A0_4 l0_4.length c0_4, .slice A0_5 l0_5.length c0_5, .slice (some ad663) l0_6.length c0_6, .bool true] 60 (0, 0)) (by (with_reducible repeat (first | refine blk_drewN ?_ _ | refine blk_drew ?_ | refine blk_alloc ?_ _)); exact BK654.out) hg (Kd.R_ne HO_8.out BK654.out (by decide))); have n2_ := Aside0.mk (hb); have n3_ := Aside0.mk (ho); clear HO_26; clear BK654; clear HB; clear HO_8; have HO_26 := n0_; have BK654 := n1_; have HB := n2_; have HO669 := n3_; clear n0_ n1_ n2_ n3_; clear ho hb hg hat))
                go_roundg k2
                case measure => have := HJ3.out; have := HK2.out; omega
                case rel => exact ⟨(y667), (wrap64 (x28_2 + 1)), (by first | rfl | (simp; done) | (simp [*]; done)), H', ⟨by have := HJ3.out; have := HK2.out; omega⟩, ⟨by (with_reducible repeat (first | apply Kd.R_alloc | apply Kd.R_drewN | apply Kd.R_drew)); exact HO669.out⟩, ⟨by (with_reducible repeat (first | apply Kd.R_alloc | apply Kd.R_drewN | apply Kd.R_drew)); exact Kd.R_mono HO_26.out (fun _ hk => hk.2)⟩, ⟨by (with_reducible repeat (first | refine blk_drewN ?_ _ | refine blk_drew ?_ | refine blk_alloc ?_ _)); exact BK654.out⟩, ⟨by repeat (first | (with_reducible first | exact HB.out | apply below_alloc | apply pw_below_drewN | apply below_drew1 | refine below_set ?_ GE654.out) | exact HB.out)⟩⟩
               ·rw [if_neg c26] at H
                exact absurd H (by simp)
              ·replace c25 := Bool.eq_false_iff.mpr c25
               subst c25
               have H1 : (pair_Breaks.l0 k2 l1 x8_2 t655 (t655.length : Int) (wrap64 (x28_2 + 1)) a0_0 l0_1 l0_2 a0_3 l0_4 l0_5 l0_6 false) = some (r1, r2) := by rw [if_neg (show ¬ (false = true) by decide)] at H; exact H
               clear H
               have H := H1
               clear H1
               have H' := Aside0.mk H
               clear H
               have p662 : 0 ≤ (x28_2 : Int) := of_decide_eq_true (by first | (with_reducible assumption) | assumption)
               have q662 : x28_2 < (t655.length : Int) := of_decide_eq_true (by first | (with_reducible assumption) | assumption)
               obtain ⟨ad662, e662, hx662_0⟩ := Kd.at_int (Kd.R_reads' HO_26.out).2.2 x28_2 p662 q662
               cases e662
               replace p662 := eq_true p662
               replace q662 := eq_true q662
               have hcz29_0 : wr.cell? ⟨gb654, 0, none⟩ = some (.int .i64 a0_0) := (blk_cell BK654.out 0).trans rfl
               have hcz29_1 : wr.cell? ⟨gb654, 1, none⟩ = some (.slice A0_1 l0_1.length c0_1) := (blk_cell BK654.out 1).trans rfl
               have hcz29_2 : wr.cell? ⟨gb654, 2, none⟩ = some (.slice A0_2 l0_2.length c0_2) := (blk_cell BK654.out 2).trans rfl
               have hcz29_3 : wr.cell? ⟨gb654, 3, none⟩ = some (.int .i64 a0_3) := (blk_cell BK654.out 3).trans rfl
               have hcz29_4 : wr.cell? ⟨gb654, 4, none⟩ = some (.slice A0_4 l0_4.length c0_4) := (blk_cell BK654.out 4).trans rfl
               have hcz29_5 : wr.cell? ⟨gb654, 5, none⟩ = some (.slice A0_5 l0_5.length c0_5) := (blk_cell BK654.out 5).trans rfl
               have hcz29_6 : wr.cell? ⟨gb654, 6, none⟩ = some (.slice A0_6 l0_6.length c0_6) := (blk_cell BK654.out 6).trans rfl
               have hcz29_7 : wr.cell? ⟨gb654, 7, none⟩ = some (.bool false) := (blk_cell BK654.out 7).trans rfl
               have hfz29_0 := blk_frozen BK654.out 0
               have hfz29_1 := blk_frozen BK654.out 1
               have hfz29_2 := blk_frozen BK654.out 2
               have hfz29_3 := blk_frozen BK654.out 3
               have hfz29_4 := blk_frozen BK654.out 4
               have hfz29_5 := blk_frozen BK654.out 5
               have hfz29_6 := blk_frozen BK654.out 6
               have hfz29_7 := blk_frozen BK654.out 7
               have p663 : 0 ≤ ((rd t655 x28_2) : Int) := of_decide_eq_true (by first | (with_reducible assumption) | assumption)
               have q663 : (rd t655 x28_2) < (l0_6.length : Int) := of_decide_eq_true (by first | (with_reducible assumption) | assumption)
               obtain ⟨ad663, e663, hx663_0⟩ := Kd.at_bool HR0_6.out (rd t655 x28_2) p663 q663
               (try rw [← Nbq19.out] at hx663_0)
               cases e663
               replace hx663_0 := (HB.out.cell (World.block_lt_of_cell? w _ hx663_0)).trans hx663_0
               replace p663 := eq_true p663
               replace q663 := eq_true q663
               go_wp2
               go_roundg k2
               case measure => have := HJ3.out; have := HK2.out; omega
               case rel => exact ⟨(x8_2), (wrap64 (x28_2 + 1)), (by first | rfl | (simp; done) | (simp [*]; done)), H', ⟨by have := HJ3.out; have := HK2.out; omega⟩, ⟨by (with_reducible repeat (first | apply Kd.R_alloc | apply Kd.R_drewN | apply Kd.R_drew)); exact HO_8.out⟩, ⟨by (with_reducible repeat (first | apply Kd.R_alloc | apply Kd.R_drewN | apply Kd.R_drew)); exact HO_26.out⟩, ⟨by (with_reducible repeat (first | refine blk_drewN ?_ _ | refine blk_drew ?_ | refine blk_alloc ?_ _)); exact BK654.out⟩, ⟨by repeat (first | (with_reducible first | exact HB.out | apply below_alloc | apply pw_below_drewN | apply below_drew1 | refine below_set ?_ GE654.out) | exact HB.out)⟩⟩
             ·rw [if_neg c24] at H
              have c24b0 : decide ((rd t655 x28_2) < 0) = false := decide_eq_false c24
              clear c24
              have H' := Aside0.mk H
              clear H
              have p662 : 0 ≤ (x28_2 : Int) := of_decide_eq_true (by first | (with_reducible assumption) | assumption)
              have q662 : x28_2 < (t655.length : Int) := of_decide_eq_true (by first | (with_reducible assumption) | assumption)
              obtain ⟨ad662, e662, hx662_0⟩ := Kd.at_int (Kd.R_reads' HO_26.out).2.2 x28_2 p662 q662
              cases e662
              replace p662 := eq_true p662
              replace q662 := eq_true q662
              have hcz30_0 : wr.cell? ⟨gb654, 0, none⟩ = some (.int .i64 a0_0) := (blk_cell BK654.out 0).trans rfl
              have hcz30_1 : wr.cell? ⟨gb654, 1, none⟩ = some (.slice A0_1 l0_1.length c0_1) := (blk_cell BK654.out 1).trans rfl
              have hcz30_2 : wr.cell? ⟨gb654, 2, none⟩ = some (.slice A0_2 l0_2.length c0_2) := (blk_cell BK654.out 2).trans rfl
              have hcz30_3 : wr.cell? ⟨gb654, 3, none⟩ = some (.int .i64 a0_3) := (blk_cell BK654.out 3).trans rfl
              have hcz30_4 : wr.cell? ⟨gb654, 4, none⟩ = some (.slice A0_4 l0_4.length c0_4) := (blk_cell BK654.out 4).trans rfl
              have hcz30_5 : wr.cell? ⟨gb654, 5, none⟩ = some (.slice A0_5 l0_5.length c0_5) := (blk_cell BK654.out 5).trans rfl
              have hcz30_6 : wr.cell? ⟨gb654, 6, none⟩ = some (.slice A0_6 l0_6.length c0_6) := (blk_cell BK654.out 6).trans rfl
              have hcz30_7 : wr.cell? ⟨gb654, 7, none⟩ = some (.bool a0_7) := (blk_cell BK654.out 7).trans rfl
              have hfz30_0 := blk_frozen BK654.out 0
              have hfz30_1 := blk_frozen BK654.out 1
              have hfz30_2 := blk_frozen BK654.out 2
              have hfz30_3 := blk_frozen BK654.out 3
              have hfz30_4 := blk_frozen BK654.out 4
              have hfz30_5 := blk_frozen BK654.out 5
              have hfz30_6 := blk_frozen BK654.out 6
              have hfz30_7 := blk_frozen BK654.out 7
              have p663 : 0 ≤ ((rd t655 x28_2) : Int) := of_decide_eq_true (by first | (with_reducible assumption) | assumption)
              have q663 : (rd t655 x28_2) < (l0_6.length : Int) := of_decide_eq_true (by first | (with_reducible assumption) | assumption)
              obtain ⟨ad663, e663, hx663_0⟩ := Kd.at_bool HR0_6.out (rd t655 x28_2) p663 q663
              (try rw [← Nbq19.out] at hx663_0)
              cases e663
              replace hx663_0 := (HB.out.cell (World.block_lt_of_cell? w _ hx663_0)).trans hx663_0
              replace p663 := eq_true p663
              replace q663 := eq_true q663
              go_wp2
              go_roundg k2
              case measure => have := HJ3.out; have := HK2.out; omega
              case rel => exact ⟨(x8_2), (wrap64 (x28_2 + 1)), (by first | rfl | (simp; done) | (simp [*]; done)), H', ⟨by have := HJ3.out; have := HK2.out; omega⟩, ⟨by (with_reducible repeat (first | apply Kd.R_alloc | apply Kd.R_drewN | apply Kd.R_drew)); exact HO_8.out⟩, ⟨by (with_reducible repeat (first | apply Kd.R_alloc | apply Kd.R_drewN | apply Kd.R_drew)); exact HO_26.out⟩, ⟨by (with_reducible repeat (first | refine blk_drewN ?_ _ | refine blk_drew ?_ | refine blk_alloc ?_ _)); exact BK654.out⟩, ⟨by repeat (first | (with_reducible first | exact HB.out | apply below_alloc | apply pw_below_drewN | apply below_drew1 | refine below_set ?_ GE654.out) | exact HB.out)⟩⟩
           ·rw [if_neg c18] at H
            exact absurd H (by simp)
          ·rw [if_neg c17] at H
           exact absurd H (by simp)
         ·rw [if_neg c16] at H
          have c16b0 : decide (0 ≤ (rd t655 x28_2)) = false := decide_eq_false c16
          clear c16
          by_cases c31 : (rd t655 x28_2) < 0
          ·rw [if_pos c31] at H
           have c31b0 : decide ((rd t655 x28_2) < 0) = true := decide_eq_true c31
           clear c31
           by_cases c32 : a0_7 = true
           ·subst c32
            have H1 : (if x8_2.length < 17592186044416 then (pair_Breaks.l0 k2 l1 (x8_2 ++ [wrap64 (x28_2 + 1)]) t655 (t655.length : Int) (wrap64 (x28_2 + 1)) a0_0 l0_1 l0_2 a0_3 l0_4 l0_5 l0_6 true) else (none)) = some (r1, r2) := by rw [if_pos rfl] at H; exact H
            clear H
            have H := H1
            clear H1
            by_cases c33 : x8_2.length < 17592186044416
            ·rw [if_pos c33] at H
             have LMc33 := Aside0.mk c33
             clear c33
             obtain ⟨y670, hy670⟩ : ∃ y_ : List Int, y_ = (x8_2 ++ [wrap64 (x28_2 + 1)]) := ⟨_, rfl⟩
             replace H : (pair_Breaks.l0 k2 l1 y670 t655 (t655.length : Int) (wrap64 (x28_2 + 1)) a0_0 l0_1 l0_2 a0_3 l0_4 l0_5 l0_6 true) = some (r1, r2) := by first | (rw [hy670]; with_reducible exact H) | (have H2_ := (Option.bind_some _ _).symm.trans H; rw [hy670]; with_reducible exact H2_) | (have H2_ := (Option.bind_some _ _).symm.trans H; with_reducible exact H2_) | with_reducible exact H | (rw [hy670]; exact H) | exact H
             have Ny670 := Aside0.mk hy670
             clear hy670
             have H' := Aside0.mk H
             clear H
             have p662 : 0 ≤ (x28_2 : Int) := of_decide_eq_true (by first | (with_reducible assumption) | assumption)
             have q662 : x28_2 < (t655.length : Int) := of_decide_eq_true (by first | (with_reducible assumption) | assumption)
             obtain ⟨ad662, e662, hx662_0⟩ := Kd.at_int (Kd.R_reads' HO_26.out).2.2 x28_2 p662 q662
             cases e662
             replace p662 := eq_true p662
             replace q662 := eq_true q662
             have hcz34_0 : wr.cell? ⟨gb654, 0, none⟩ = some (.int .i64 a0_0) := (blk_cell BK654.out 0).trans rfl
             have hcz34_1 : wr.cell? ⟨gb654, 1, none⟩ = some (.slice A0_1 l0_1.length c0_1) := (blk_cell BK654.out 1).trans rfl
             have hcz34_2 : wr.cell? ⟨gb654, 2, none⟩ = some (.slice A0_2 l0_2.length c0_2) := (blk_cell BK654.out 2).trans rfl
             have hcz34_3 : wr.cell? ⟨gb654, 3, none⟩ = some (.int .i64 a0_3) := (blk_cell BK654.out 3).trans rfl
             have hcz34_4 : wr.cell? ⟨gb654, 4, none⟩ = some (.slice A0_4 l0_4.length c0_4) := (blk_cell BK654.out 4).trans rfl
             have hcz34_5 : wr.cell? ⟨gb654, 5, none⟩ = some (.slice A0_5 l0_5.length c0_5) := (blk_cell BK654.out 5).trans rfl
             have hcz34_6 : wr.cell? ⟨gb654, 6, none⟩ = some (.slice A0_6 l0_6.length c0_6) := (blk_cell BK654.out 6).trans rfl
             have hcz34_7 : wr.cell? ⟨gb654, 7, none⟩ = some (.bool true) := (blk_cell BK654.out 7).trans rfl
             have hfz34_0 := blk_frozen BK654.out 0
             have hfz34_1 := blk_frozen BK654.out 1
             have hfz34_2 := blk_frozen BK654.out 2
             have hfz34_3 := blk_frozen BK654.out 3
             have hfz34_4 := blk_frozen BK654.out 4
             have hfz34_5 := blk_frozen BK654.out 5
             have hfz34_6 := blk_frozen BK654.out 6
             have hfz34_7 := blk_frozen BK654.out 7
             go_wp2_with (first | ((with_reducible refine gate_builtin (b := .append) (xs := #[.tmp 50, .tmp 53]) rfl ?_); (try (refine gate_guard (by rfl) ?_; dsimp only)); at_builtin; refine Kd.R_append (Kd.int .i64) (w0 := w) w.heap.size rfl (.tmp 50) (.tmp 53) 25 3 (.int .i64 0) 8 rfl Tryd.underlying25 info3 rfl (by decide) (by omega) u8 x8_2 (wrap64 (x28_2 + 1)) [.int .i64 (wrap64 (x28_2 + 1))] (fun k_ => some k_ ≠ (.slice (some ad662) t655.length co12 : Value).ownBlock) (fun _ => False) rfl rfl ?aP (fun _ hk => hk.elim) ?aF ?aO ?aB ?aS ?aL ?_; (case aP => exact rfl); (case aB => exact (by repeat (first | (with_reducible first | exact HB.out | apply below_alloc | apply pw_below_drewN | apply below_drew1 | refine below_set ?_ GE654.out) | exact HB.out))); (case aF => exact (fun k_ hk => Kd.fresh' (Kd.R_lt (by (with_reducible repeat (first | apply Kd.R_alloc | apply Kd.R_drewN | apply Kd.R_drew)); exact HO_26.out)) k_ hk)); (case aO => exact (by (with_reducible repeat (first | apply Kd.R_alloc | apply Kd.R_drewN | apply Kd.R_drew)); exact HO_8.out)); (case aS => exact (below_size (by repeat (first | (with_reducible first | exact HB.out | apply below_alloc | apply pw_below_drewN | apply below_drew1 | refine below_set ?_ GE654.out) | exact HB.out)))); (case aL => have := LMc33.out; omega); intro v671 w35 ho hb hg hat; rw [← Ny670.out] at ho; have n0_ := Aside0.mk (Kd.R_after (ok := (fun _ => True)) (by (with_reducible repeat (first | apply Kd.R_alloc | apply Kd.R_drewN | apply Kd.R_drew)); exact Kd.R_mono HO_26.out (fun _ hk => ⟨trivial, hk⟩)) hg hat); have n1_ := Aside0.mk (blk_grown (g := gb654) (o := .cells #[.int .i64 a0_0, .slice A0_1 l0_1.length c0_1, .slice A0_2 l0_2.length c0_2, .int .i64 a0_3, .slice A0_4 l0_4.length c0_4, .slice A0_5 l0_5.length c0_5, .slice A0_6 l0_6.length c0_6, .bool true] 60 (0, 0)) (by (with_reducible repeat (first | refine blk_drewN ?_ _ | refine blk_drew ?_ | refine blk_alloc ?_ _)); exact BK654.out) hg (Kd.R_ne HO_8.out BK654.out (by decide))); have n2_ := Aside0.mk (hb); have n3_ := Aside0.mk (ho); clear HO_26; clear BK654; clear HB; clear HO_8; have HO_26 := n0_; have BK654 := n1_; have HB := n2_; have HO672 := n3_; clear n0_ n1_ n2_ n3_; clear ho hb hg hat))
             go_roundg k2
             case measure => have := HJ3.out; have := HK2.out; omega
             case rel => exact ⟨(y670), (wrap64 (x28_2 + 1)), (by first | rfl | (simp; done) | (simp [*]; done)), H', ⟨by have := HJ3.out; have := HK2.out; omega⟩, ⟨by (with_reducible repeat (first | apply Kd.R_alloc | apply Kd.R_drewN | apply Kd.R_drew)); exact HO672.out⟩, ⟨by (with_reducible repeat (first | apply Kd.R_alloc | apply Kd.R_drewN | apply Kd.R_drew)); exact Kd.R_mono HO_26.out (fun _ hk => hk.2)⟩, ⟨by (with_reducible repeat (first | refine blk_drewN ?_ _ | refine blk_drew ?_ | refine blk_alloc ?_ _)); exact BK654.out⟩, ⟨by repeat (first | (with_reducible first | exact HB.out | apply below_alloc | apply pw_below_drewN | apply below_drew1 | refine below_set ?_ GE654.out) | exact HB.out)⟩⟩
            ·rw [if_neg c33] at H
             exact absurd H (by simp)
           ·replace c32 := Bool.eq_false_iff.mpr c32
            subst c32
            have H1 : (pair_Breaks.l0 k2 l1 x8_2 t655 (t655.length : Int) (wrap64 (x28_2 + 1)) a0_0 l0_1 l0_2 a0_3 l0_4 l0_5 l0_6 false) = some (r1, r2) := by rw [if_neg (show ¬ (false = true) by decide)] at H; exact H
            clear H
            have H := H1
            clear H1
            have H' := Aside0.mk H
            clear H
            have p662 : 0 ≤ (x28_2 : Int) := of_decide_eq_true (by first | (with_reducible assumption) | assumption)
            have q662 : x28_2 < (t655.length : Int) := of_decide_eq_true (by first | (with_reducible assumption) | assumption)
            obtain ⟨ad662, e662, hx662_0⟩ := Kd.at_int (Kd.R_reads' HO_26.out).2.2 x28_2 p662 q662
            cases e662
            replace p662 := eq_true p662
            replace q662 := eq_true q662
            have hcz36_0 : wr.cell? ⟨gb654, 0, none⟩ = some (.int .i64 a0_0) := (blk_cell BK654.out 0).trans rfl
            have hcz36_1 : wr.cell? ⟨gb654, 1, none⟩ = some (.slice A0_1 l0_1.length c0_1) := (blk_cell BK654.out 1).trans rfl
            have hcz36_2 : wr.cell? ⟨gb654, 2, none⟩ = some (.slice A0_2 l0_2.length c0_2) := (blk_cell BK654.out 2).trans rfl
            have hcz36_3 : wr.cell? ⟨gb654, 3, none⟩ = some (.int .i64 a0_3) := (blk_cell BK654.out 3).trans rfl
            have hcz36_4 : wr.cell? ⟨gb654, 4, none⟩ = some (.slice A0_4 l0_4.length c0_4) := (blk_cell BK654.out 4).trans rfl
            have hcz36_5 : wr.cell? ⟨gb654, 5, none⟩ = some (.slice A0_5 l0_5.length c0_5) := (blk_cell BK654.out 5).trans rfl
            have hcz36_6 : wr.cell? ⟨gb654, 6, none⟩ = some (.slice A0_6 l0_6.length c0_6) := (blk_cell BK654.out 6).trans rfl
            have hcz36_7 : wr.cell? ⟨gb654, 7, none⟩ = some (.bool false) := (blk_cell BK654.out 7).trans rfl
            have hfz36_0 := blk_frozen BK654.out 0
            have hfz36_1 := blk_frozen BK654.out 1
            have hfz36_2 := blk_frozen BK654.out 2
            have hfz36_3 := blk_frozen BK654.out 3
            have hfz36_4 := blk_frozen BK654.out 4
            have hfz36_5 := blk_frozen BK654.out 5
            have hfz36_6 := blk_frozen BK654.out 6
            have hfz36_7 := blk_frozen BK654.out 7
            go_wp2
            go_roundg k2
            case measure => have := HJ3.out; have := HK2.out; omega
            case rel => exact ⟨(x8_2), (wrap64 (x28_2 + 1)), (by first | rfl | (simp; done) | (simp [*]; done)), H', ⟨by have := HJ3.out; have := HK2.out; omega⟩, ⟨by (with_reducible repeat (first | apply Kd.R_alloc | apply Kd.R_drewN | apply Kd.R_drew)); exact HO_8.out⟩, ⟨by (with_reducible repeat (first | apply Kd.R_alloc | apply Kd.R_drewN | apply Kd.R_drew)); exact HO_26.out⟩, ⟨by (with_reducible repeat (first | refine blk_drewN ?_ _ | refine blk_drew ?_ | refine blk_alloc ?_ _)); exact BK654.out⟩, ⟨by repeat (first | (with_reducible first | exact HB.out | apply below_alloc | apply pw_below_drewN | apply below_drew1 | refine below_set ?_ GE654.out) | exact HB.out)⟩⟩
          ·rw [if_neg c31] at H
           have c31b0 : decide ((rd t655 x28_2) < 0) = false := decide_eq_false c31
           clear c31
           have H' := Aside0.mk H
           clear H
           have p662 : 0 ≤ (x28_2 : Int) := of_decide_eq_true (by first | (with_reducible assumption) | assumption)
           have q662 : x28_2 < (t655.length : Int) := of_decide_eq_true (by first | (with_reducible assumption) | assumption)
           obtain ⟨ad662, e662, hx662_0⟩ := Kd.at_int (Kd.R_reads' HO_26.out).2.2 x28_2 p662 q662
           cases e662
           replace p662 := eq_true p662
           replace q662 := eq_true q662
           go_wp2
           go_roundg k2
           case measure => have := HJ3.out; have := HK2.out; omega
           case rel => exact ⟨(x8_2), (wrap64 (x28_2 + 1)), (by first | rfl | (simp; done) | (simp [*]; done)), H', ⟨by have := HJ3.out; have := HK2.out; omega⟩, ⟨by (with_reducible repeat (first | apply Kd.R_alloc | apply Kd.R_drewN | apply Kd.R_drew)); exact HO_8.out⟩, ⟨by (with_reducible repeat (first | apply Kd.R_alloc | apply Kd.R_drewN | apply Kd.R_drew)); exact HO_26.out⟩, ⟨by (with_reducible repeat (first | refine blk_drewN ?_ _ | refine blk_drew ?_ | refine blk_alloc ?_ _)); exact BK654.out⟩, ⟨by repeat (first | (with_reducible first | exact HB.out | apply below_alloc | apply pw_below_drewN | apply below_drew1 | refine below_set ?_ GE654.out) | exact HB.out)⟩⟩
        ·rw [if_neg c15] at H
         exact absurd H (by simp)
       ·rw [if_neg c14] at H
        exact absurd H (by simp)
      ·rw [if_neg c13] at H
       have c13b0 : decide (x28_2 < (t655.length : Int)) = false := decide_eq_false c13
       clear c13
       by_cases c37 : x8_2.length < 17592186044416
       ·rw [if_pos c37] at H
        have LMc37 := Aside0.mk c37
        clear c37
        obtain ⟨y673, hy673⟩ : ∃ y_ : List Int, y_ = (x8_2 ++ [(l1.length : Int)]) := ⟨_, rfl⟩
        replace H : (some (y673, 0)) = some (r1, r2) := by first | (rw [hy673]; with_reducible exact H) | (have H2_ := (Option.bind_some _ _).symm.trans H; rw [hy673]; with_reducible exact H2_) | (have H2_ := (Option.bind_some _ _).symm.trans H; with_reducible exact H2_) | with_reducible exact H | (rw [hy673]; exact H) | exact H
        have Ny673 := Aside0.mk hy673
        clear hy673
        simp only [Option.some.injEq, Prod.mk.injEq] at H
        obtain ⟨rfl, rfl⟩ := H
        go_wp2_with (first | ((with_reducible refine gate_builtin (b := .append) (xs := #[.tmp 56, .tmp 59]) rfl ?_); (try (refine gate_guard (by rfl) ?_; dsimp only)); at_builtin; refine Kd.R_append (Kd.int .i64) (w0 := w) w.heap.size rfl (.tmp 56) (.tmp 59) 25 3 (.int .i64 0) 8 rfl Tryd.underlying25 info3 rfl (by decide) (by omega) u8 x8_2 (l1.length : Int) [.int .i64 (l1.length : Int)] (fun k_ => some k_ ≠ (.slice Ao12 t655.length co12 : Value).ownBlock) (fun _ => False) rfl rfl ?aP (fun _ hk => hk.elim) ?aF ?aO ?aB ?aS ?aL ?_; (case aP => exact rfl); (case aB => exact (by repeat (first | (with_reducible first | exact HB.out | apply below_alloc | apply pw_below_drewN | apply below_drew1 | refine below_set ?_ GE654.out) | exact HB.out))); (case aF => exact (fun k_ hk => Kd.fresh' (Kd.R_lt (by (with_reducible repeat (first | apply Kd.R_alloc | apply Kd.R_drewN | apply Kd.R_drew)); exact HO_26.out)) k_ hk)); (case aO => exact (by (with_reducible repeat (first | apply Kd.R_alloc | apply Kd.R_drewN | apply Kd.R_drew)); exact HO_8.out)); (case aS => exact (below_size (by repeat (first | (with_reducible first | exact HB.out | apply below_alloc | apply pw_below_drewN | apply below_drew1 | refine below_set ?_ GE654.out) | exact HB.out)))); (case aL => have := LMc37.out; omega); intro v674 w38 ho hb hg hat; rw [← Ny673.out] at ho; have n0_ := Aside0.mk (Kd.R_after (ok := (fun _ => True)) (by (with_reducible repeat (first | apply Kd.R_alloc | apply Kd.R_drewN | apply Kd.R_drew)); exact Kd.R_mono HO_26.out (fun _ hk => ⟨trivial, hk⟩)) hg hat); have n1_ := Aside0.mk (blk_grown (g := gb654) (o := .cells #[.int .i64 a0_0, .slice A0_1 l0_1.length c0_1, .slice A0_2 l0_2.length c0_2, .int .i64 a0_3, .slice A0_4 l0_4.length c0_4, .slice A0_5 l0_5.length c0_5, .slice A0_6 l0_6.length c0_6, .bool a0_7] 60 (0, 0)) (by (with_reducible repeat (first | refine blk_drewN ?_ _ | refine blk_drew ?_ | refine blk_alloc ?_ _)); exact BK654.out) hg (Kd.R_ne HO_8.out BK654.out (by decide))); have n2_ := Aside0.mk (hb); have n3_ := Aside0.mk (ho); clear HO_26; clear BK654; clear HB; clear HO_8; have HO_26 := n0_; have BK654 := n1_; have HB := n2_; have HO675 := n3_; clear n0_ n1_ n2_ n3_; clear ho hb hg hat))
        go_ret2
        exact ⟨_, by first | rfl | (simp [errW_none, errW_some] <;> rfl) | (simp [*, errW_none, errW_some] <;> rfl), by (with_reducible repeat (first | apply Kd.R_alloc | apply Kd.R_drewN | apply Kd.R_drew)); exact Kd.R_mono HO675.out (fun _ hk => trivial), by repeat (first | (with_reducible first | exact HB.out | apply below_alloc | apply pw_below_drewN | apply below_drew1 | refine below_set ?_ GE654.out) | exact HB.out)⟩
       ·rw [if_neg c37] at H
        exact absurd H (by simp)
end Go.Proofs.YtfonajakaimnoaaDoor.Lib

namespace Go.Proofs.YtfonajakaimnoaaDoor.C14
open Go.RowKit Go.Proofs.YtfonajakaimnoaaDoorW.PrintWords Go.Proofs.YtfonajakaimnoaaDoorW.PrintLast Go.Proofs.YtfonajakaimnoaaDoorW.PrintMore Go.Proofs.YtfonajakaimnoaaDoor.Lib Lent Go.Proofs.YtfonajakaimnoaaDoor.Fn Go.Proofs.YtfonajakaimnoaaDoor.C11
set_option linter.unusedVariables false
set_option linter.unusedSimpArgs false
theorem wf_wrong (n : Int) (word : List Int) : word.any (wrongI n) = !wfB n word := by
 unfold wfB
 induction word with
 | nil => rfl
 | cons x r ih =>
  rw [List.any_cons, List.all_cons, ih]
  simp only [wrongI]
  cases decide (x < 0) <;> cases decide (x ≥ n) <;> simp
def turnIn (l : List Int) (i : Nat) : List Int := (l.reverse.take i) ++ (l.drop i).take (l.length - 2 * i) ++ l.reverse.drop (l.length - i)
theorem turnIn_zero (l : List Int) : turnIn l 0 = l := by
 simp [turnIn]
theorem turnIn_len (l : List Int) (i : Nat) (h : 2 * i ≤ l.length) : (turnIn l i).length = l.length := by
 simp [turnIn]
 omega
theorem turnIn_get (l : List Int) (i : Nat) (h : 2 * i ≤ l.length) (j : Nat) (hj : j < l.length) : (turnIn l i)[j]? = if j < i ∨ l.length - i ≤ j then l.reverse[j]? else l[j]? := by
 unfold turnIn
 by_cases h1 : j < i
 ·rw [if_pos (.inl h1), List.getElem?_append_left (by simp; omega), List.getElem?_append_left (by simp; omega), List.getElem?_take, if_pos h1]
 ·by_cases h2 : l.length - i ≤ j
  ·rw [if_pos (.inr h2), List.getElem?_append_right (by simp; omega)]
   simp only [List.length_append, List.length_take, List.length_reverse, List.length_drop, List.getElem?_drop]
   congr 1
   omega
  ·rw [if_neg (by omega), List.getElem?_append_left (by simp; omega), List.getElem?_append_right (by simp; omega)]
   simp only [List.length_take, List.length_reverse, List.getElem?_take, List.getElem?_drop]
   rw [if_pos (by omega)]
   congr 1
   omega
theorem turnIn_end (l : List Int) (i : Nat) (h : 2 * i ≤ l.length) (h2 : l.length ≤ 2 * i + 1) : turnIn l i = l.reverse := by
 refine List.ext_getElem? (fun j => ?_)
 by_cases hj : j < l.length
 ·rw [turnIn_get l i h j hj]
  split
  ·rfl
  ·have : j = i := by omega
   subst this
   rw [List.getElem?_reverse hj]
   congr 1
   omega
 ·rw [List.getElem?_eq_none (by rw [turnIn_len l i h]; omega), List.getElem?_eq_none (by simp; omega)]
theorem turnIn_step (l : List Int) (i : Nat) (h : 2 * (i + 1) ≤ l.length) :
  ((turnIn l i).set i (l.getD (l.length - 1 - i) 0)).set (l.length - 1 - i) (l.getD i 0) = turnIn l (i + 1) := by
 have hl := turnIn_len l i (by omega)
 refine List.ext_getElem? (fun j => ?_)
 by_cases hj : j < l.length
 ·rw [turnIn_get l (i + 1) h j hj, List.getElem?_set, List.getElem?_set]
  simp only [List.length_set, hl]
  by_cases e1 : l.length - 1 - i = j
  ·rw [if_pos e1, if_pos (by omega), if_pos (by omega), List.getElem?_reverse hj, List.getD_eq_getElem?_getD, List.getElem?_eq_getElem (by omega)]
   rw [List.getElem?_eq_getElem (by omega)]
   simp only [Option.getD_some]
   congr 2
   omega
  ·rw [if_neg e1]
   by_cases e2 : i = j
   ·rw [if_pos e2, if_pos (by omega), if_pos (by omega), List.getElem?_reverse hj, List.getD_eq_getElem?_getD, List.getElem?_eq_getElem (by omega), List.getElem?_eq_getElem (by omega)]
    simp only [Option.getD_some]
    congr 2
    omega
   ·rw [if_neg e2, turnIn_get l i (by omega) j hj]
    by_cases e3 : j < i ∨ l.length - i ≤ j
    ·rw [if_pos e3, if_pos (by omega)]
    ·rw [if_neg e3, if_neg (by omega)]
 ·rw [List.getElem?_eq_none (by simp only [List.length_set, hl]; omega), List.getElem?_eq_none (by rw [turnIn_len l (i + 1) h]; omega)]
theorem rd_getD (l : List Int) (i : Nat) : rd l (i : Int) = l.getD i 0 := rfl
theorem turnIn_mid (l : List Int) (i j : Nat) (h : 2 * i ≤ l.length) (hj : j < l.length) (h1 : i ≤ j) (h2 : j < l.length - i) : rd (turnIn l i) (j : Int) = l.getD j 0 := by
 rw [rd_getD, List.getD_eq_getElem?_getD, turnIn_get l i h j hj, if_neg (by omega), List.getD_eq_getElem?_getD]
theorem reverse_ev (l : List Int) (hl : l.length ≤ 17592186044400) : Ev (fun k => slices_Reverse_int_int.f k l) l.reverse := by
 have key : ∀ (d i : Nat), 2 * i ≤ l.length → l.length - 2 * i = d → Ev (fun k => slices_Reverse_int_int.l0 k (turnIn l i) (i : Int) ((l.length : Int) - 1 - i)) l.reverse := by
  intro d
  induction d using Nat.strongRecOn with
  | ind d ih =>
   intro i hi hd
   by_cases hlt : (i : Int) < (l.length : Int) - 1 - i
   ·have h2 : 2 * (i + 1) ≤ l.length := by omega
    have hlen := turnIn_len l i hi
    have e1 : (l.length : Int) - 1 - i = ((l.length - 1 - i : Nat) : Int) := by omega
    have w1 : wrap64 ((i : Int) + 1) = ((i + 1 : Nat) : Int) := wsucc (show i < l.length by omega) (by omega)
    have w2 : wrap64 (((l.length - 1 - i : Nat) : Int) - 1) = (l.length : Int) - 1 - ((i + 1 : Nat) : Int) := by unfold wrap64; omega
    have hnext := ih (l.length - 2 * (i + 1)) (by omega) (i + 1) h2 rfl
    rw [← w2, ← w1, ← turnIn_step l i h2] at hnext
    clear w1 w2
    rw [e1] at hlt ⊢
    refine Ev.step (fun k => ?_) hnext
    conv => lhs; unfold slices_Reverse_int_int.l0
    rw [if_pos hlt, if_pos (by omega), if_pos (by omega), if_pos (by omega), if_pos (by omega), turnIn_mid l i _ hi (by omega) (by omega) (by omega), turnIn_mid l i i hi (by omega) (by omega) (by omega)]
    rfl
   ·refine Ev.step (f := fun _ => some l.reverse) (fun k => ?_) (Ev.now _)
    conv => lhs; unfold slices_Reverse_int_int.l0
    rw [if_neg hlt, turnIn_end l i hi (by omega)]
 have h0 := key l.length 0 (by omega) (by omega)
 rw [turnIn_zero] at h0
 have hw : wrap64 ((l.length : Int) - 1) = (l.length : Int) - 1 - ((0 : Nat) : Int) := by unfold wrap64; omega
 unfold slices_Reverse_int_int.f
 rw [hw]
 exact h0
section
variable {s0 : Int} {N0 O0 : LL} {s1 : Int} {N1 O1 : LL} {B : List Bool} {els : Bool} {word : List Int} {n : Nat}
theorem p_dec_l0 (h : Pg s0 N0 O0 s1 N1 O1 B word n) (hl : word.length ≤ 17592186043904) (hO0 : ∀ x ∈ O0, x.length ≤ 9223372036854775807) (hO1 : ∀ x ∈ O1, x.length ≤ 9223372036854775807) :
  ∀ (d j : Nat), j ≤ word.length - 1 → word.length - 1 - j = d →
   Ev (fun k => pair_Decide.l0 k word (runL N0 s0 word) (runL N1 s1 word.reverse) (decL s0 N0 O0 s1 N1 O1 word j) ((j + 1 : Nat) : Int) s0 N0 O0 s1 N1 O1 B els) (decL s0 N0 O0 s1 N1 O1 word (word.length - 1), 0) := by
 intro d
 induction d with
 | zero =>
  intro j hj hd
  obtain rfl : j = word.length - 1 := by omega
  refine Ev.step (f := fun _ => some (decL s0 N0 O0 s1 N1 O1 word (word.length - 1), 0)) (fun k => ?_) (Ev.now _)
  conv => lhs; unfold pair_Decide.l0
  rw [if_neg (by omega)]
 | succ d ih =>
  intro j hj hd
  have hnext := ih (j + 1) (by omega) (by omega)
  have hw : wrap64 (((j + 1 : Nat) : Int) + 1) = ((j + 1 + 1 : Nat) : Int) := wsucc (show j + 1 < word.length by omega) (by omega)
  rw [← hw] at hnext
  clear hw
  obtain ⟨p0, p1, p2⟩ := h.at0 (show j + 1 ≤ word.length by omega)
  obtain ⟨q0, q1, q2⟩ := h.at1 (show word.length - (j + 1) ≤ word.length by omega)
  have hs : wrap64 ((word.length : Int) - ((j + 1 : Nat) : Int)) = ((word.length - (j + 1) : Nat) : Int) := by unfold wrap64; omega
  have hlen := decL_len s0 N0 O0 s1 N1 O1 word j
  have hb : Ev (fun k => pair_both.f k (rd_L1 O0 (rd (runL N0 s0 word) ((j + 1 : Nat) : Int))) (rd_L1 O1 (rd (runL N1 s1 word.reverse) ((word.length - (j + 1) : Nat) : Int)))) (decAt s0 N0 O0 s1 N1 O1 word (j + 1)) :=
   both_ev B.length _ _ _ (-1) (-1) rfl (rises_row h.r0 p0 p1) (rises_row h.r1 q0 q1)
  refine Ev.step (f := fun k => (pair_both.f k (rd_L1 O0 (rd (runL N0 s0 word) ((j + 1 : Nat) : Int))) (rd_L1 O1 (rd (runL N1 s1 word.reverse) ((word.length - (j + 1) : Nat) : Int)))).bind fun t => pair_Decide.l0 k word (runL N0 s0 word) (runL N1 s1 word.reverse) (decL s0 N0 O0 s1 N1 O1 word j ++ [t]) (wrap64 (((j + 1 : Nat) : Int) + 1)) s0 N0 O0 s1 N1 O1 B els) (fun k => ?_) (Ev.bind hb hnext)
  conv => lhs; unfold pair_Decide.l0
  rw [hs]
  clear hs
  rw [if_pos (by omega), if_pos (by omega), if_pos p2, if_pos p0, if_pos p1, if_pos (by omega), if_pos q2, if_pos q0, if_pos q1]
  congr 1
  funext t
  rw [if_pos (by omega)]
theorem ok_word (h : wfB (symN N0) word = true) : ∀ c ∈ word, 0 ≤ c ∧ c < symN N0 := fun c hc => by
 unfold wfB at h
 rw [List.all_eq_true] at h
 have := h c hc
 simp at this
 omega
theorem p_dec_ev (hl : word.length ≤ 17592186043904) (hN0 : ∀ x ∈ N0, x.length ≤ 9223372036854775807) (hO0 : ∀ x ∈ O0, x.length ≤ 9223372036854775807) (hN1 : ∀ x ∈ N1, x.length ≤ 9223372036854775807) (hO1 : ∀ x ∈ O1, x.length ≤ 9223372036854775807) :
  Ev (fun k => pair_Decide.f k s0 N0 O0 s1 N1 O1 B els word) (decR s0 N0 O0 s1 N1 O1 B word) := by
 have jt : Ev (fun k => pair_Decide.j0 k word true s0 N0 O0 s1 N1 O1 B els) (([] : List Int), (1 : Int)) := Ev.step (f := fun _ => some ([], 1)) (fun k => rfl) (Ev.now _)
 unfold pair_Decide.f
 simp only [psym_ev, Option.bind_some]
 refine Ev.bind (p_check_ev hN0 hO0 hN1 hO1) ?_
 unfold decR decOk
 cases hp : pokB s0 N0 O0 s1 N1 O1 B (symN N0) with
 | false => exact Ev.congr (fun k => if_neg (by decide)) jt
 | true =>
  refine Ev.congr (fun k => if_pos rfl) ?_
  rw [wf_wrong, Bool.true_and]
  cases hw : wfB (symN N0) word with
  | false => exact jt
  | true =>
   obtain ⟨m, e, h⟩ := pg_of hp (ok_word hw)
   refine Ev.step (f := fun k => (machine_Run.f k s0 N0 O0 word).bind fun bt574 => (if bt574.2 = 0 then ((some word).bind fun t578 => ((slices_Reverse_int_int.f k t578).bind fun t581 => ((machine_Run.f k s1 N1 O1 t581).bind fun bt582 => (if bt582.2 = 0 then (pair_Decide.l0 k word bt574.1 bt582.1 ([] : List Int) 1 s0 N0 O0 s1 N1 O1 B els) else (some (([] : List Int), bt582.2)))))) else (some (([] : List Int), bt574.2)))) (fun k => rfl) ?_
   refine Ev.bind (m_run_ev h.g0 h.a0.1 h.a0.2 h.hw (by omega)) (Ev.congr (fun k => if_pos rfl) ?_)
   refine Ev.bind (Ev.now word) (Ev.bind (reverse_ev word (by omega)) (Ev.bind (m_run_ev h.g1 h.a1.1 h.a1.2 h.rev (by rw [List.length_reverse]; omega)) (Ev.congr (fun k => if_pos rfl) ?_)))
   exact p_dec_l0 h hl hO0 hO1 (word.length - 1) 0 (by omega) (by omega)
theorem p_brk_l0 (l : List Int) (hl : word.length ≤ 17592186043904) (hlen : l.length ≤ word.length) (hd : ∀ d ∈ l, d < B.length) :
  ∀ (e i : Nat) (out : List Int), i ≤ l.length → l.length - i = e → out.length ≤ i + 1 → Ev (fun k => pair_Breaks.l0 k word out l l.length i s0 N0 O0 s1 N1 O1 B els) ((out ++ brks B els i (l.drop i)) ++ [(word.length : Int)], 0) := by
 intro e
 induction e with
 | zero =>
  intro i out hi he ho
  rw [List.drop_of_length_le (by omega)]
  refine Ev.step (f := fun _ => some (out ++ [(word.length : Int)], 0)) (fun k => ?_) (by rw [show brks B els i [] = [] from rfl, List.append_nil]; exact Ev.now _)
  conv => lhs; unfold pair_Breaks.l0
  rw [if_neg (by omega), if_pos (by omega)]
 | succ e ih =>
  intro i out hi he ho
  have hil : i < l.length := by omega
  have hw := wsucc hil (by omega)
  have hdi := hd _ (List.getElem_mem hil)
  have hyes : Ev (fun k => pair_Breaks.l0 k word (out ++ [wrap64 ((i : Int) + 1)]) l l.length (wrap64 ((i : Int) + 1)) s0 N0 O0 s1 N1 O1 B els) ((out ++ ((i + 1 : Nat) : Int) :: brks B els (i + 1) (l.drop (i + 1))) ++ [(word.length : Int)], 0) := by
   rw [hw, show out ++ ((i + 1 : Nat) : Int) :: brks B els (i + 1) (l.drop (i + 1)) = out ++ [((i + 1 : Nat) : Int)] ++ brks B els (i + 1) (l.drop (i + 1)) by simp]
   exact ih (i + 1) _ (by omega) (by omega) (by simp; omega)
  have hno : Ev (fun k => pair_Breaks.l0 k word out l l.length (wrap64 ((i : Int) + 1)) s0 N0 O0 s1 N1 O1 B els) ((out ++ brks B els (i + 1) (l.drop (i + 1))) ++ [(word.length : Int)], 0) := by
   rw [hw]
   exact ih (i + 1) _ (by omega) (by omega) (by omega)
  clear hw
  have hB : brks B els i (l.drop i) = if saysB B els l[i] then ((i + 1 : Nat) : Int) :: brks B els (i + 1) (l.drop (i + 1)) else brks B els (i + 1) (l.drop (i + 1)) := by rw [List.drop_eq_getElem_cons hil]; rfl
  rw [hB]
  unfold saysB
  by_cases h0 : l[i] ≥ 0
  ·rw [if_pos h0]
   cases hq : rdOf false B l[i] with
   | true =>
    refine Ev.step (fun k => ?_) hyes
    conv => lhs; unfold pair_Breaks.l0
    rw [if_pos (by omega), if_pos (by omega), if_pos (by omega), rd_at l i hil, if_pos h0, if_pos h0, if_pos hdi, if_pos hq, if_pos (by omega)]
   | false =>
    refine Ev.step (fun k => ?_) hno
    conv => lhs; unfold pair_Breaks.l0
    rw [if_pos (by omega), if_pos (by omega), if_pos (by omega), rd_at l i hil, if_pos h0, if_pos h0, if_pos hdi, if_neg (by rw [hq]; decide), if_neg (by omega)]
  ·rw [if_neg h0]
   cases els with
   | true =>
    refine Ev.step (fun k => ?_) hyes
    conv => lhs; unfold pair_Breaks.l0
    rw [if_pos (by omega), if_pos (by omega), if_pos (by omega), rd_at l i hil, if_neg h0, if_pos (by omega), if_pos rfl, if_pos (by omega)]
   | false =>
    refine Ev.step (fun k => ?_) hno
    conv => lhs; unfold pair_Breaks.l0
    rw [if_pos (by omega), if_pos (by omega), if_pos (by omega), rd_at l i hil, if_neg h0, if_pos (by omega), if_neg (by decide)]
theorem p_brk_ev (hl : word.length ≤ 17592186043904) (hN0 : ∀ x ∈ N0, x.length ≤ 9223372036854775807) (hO0 : ∀ x ∈ O0, x.length ≤ 9223372036854775807) (hN1 : ∀ x ∈ N1, x.length ≤ 9223372036854775807) (hO1 : ∀ x ∈ O1, x.length ≤ 9223372036854775807) :
  Ev (fun k => pair_Breaks.f k s0 N0 O0 s1 N1 O1 B els word) (brkR s0 N0 O0 s1 N1 O1 B els word) := by
 unfold pair_Breaks.f
 refine Ev.bind (p_dec_ev hl hN0 hO0 hN1 hO1) ?_
 unfold brkR decR
 cases ho : decOk s0 N0 O0 s1 N1 O1 B word with
 | false =>
  refine Ev.congr (fun k => if_neg (by simp)) (Ev.step (f := fun _ => some ([], 1)) (fun k => rfl) (Ev.now _))
 | true =>
  refine Ev.congr (fun k => if_pos rfl) ?_
  by_cases h0 : word.length = 0
  ·rw [if_pos rfl, if_pos h0, show ((word.length : Int) == 0) = true from beq_iff_eq.mpr (by omega)]
   exact Ev.step (f := fun _ => some ([], 0)) (fun k => rfl) (Ev.now _)
  ·rw [if_pos rfl, if_neg h0, show ((word.length : Int) == 0) = false from beq_eq_false_iff_ne.mpr (by omega)]
   unfold decOk at ho
   rw [Bool.and_eq_true] at ho
   obtain ⟨m, e, h⟩ := pg_of ho.1 (ok_word ho.2)
   have hlen := decL_len s0 N0 O0 s1 N1 O1 word (word.length - 1)
   have := p_brk_l0 (s0 := s0) (N0 := N0) (O0 := O0) (s1 := s1) (N1 := N1) (O1 := O1) (els := els) (word := word) (decL s0 N0 O0 s1 N1 O1 word (word.length - 1)) hl (by omega) (h.decL_lt _ (by omega)) _ 0 [0] (by omega) rfl (by simp)
   rw [List.drop_zero] at this
   exact Ev.step (fun k => rfl) this
end
end Go.Proofs.YtfonajakaimnoaaDoor.C14

namespace Go.Proofs.YtfonajakaimnoaaDoor.Lib
open Go.RowKit Go.Proofs.YtfonajakaimnoaaDoorW.PrintWords Go.Proofs.YtfonajakaimnoaaDoorW.PrintLast Go.Proofs.YtfonajakaimnoaaDoorW.PrintMore
attribute [local go_sem] max2_int min2_int max_two min_two max_three min_three max_four min_four   -- for this text's walks alone
set_option linter.unusedVariables false
set_option linter.unusedSimpArgs false
def caesuraref0_SameInts.l0 : Nat → List Int → List Int → Int → Option (Bool)
 | 0, _, _, _ => none
 | k + 1, x0, x1, x5 => if x5 < (x0.length : Int) then (if 0 ≤ x5 then (if x5 < (x1.length : Int) then (if (rd x0 x5) = (rd x1 x5) then (caesuraref0_SameInts.l0 k x0 x1 (wrap64 (x5 + 1))) else (some false)) else (none)) else (none)) else (some true)
def caesuraref0_SameInts.f (k : Nat) (l0 : List Int) (l1 : List Int) : Option (Bool) := if (l0.length : Int) = (l1.length : Int) then (caesuraref0_SameInts.l0 k l0 l1 0) else (some false)
set_option maxHeartbeats 8000000 in
set_option maxRecDepth 100000 in
theorem caesuraref0_SameInts.calls (k : Nat) (A0 : Option Addr) (c0 : Nat) (l0 : List Int) (A1 : Option Addr) (c1 : Nat) (l1 : List Int) (r : Bool) (w : World) (hr0 : Kd.C (Kd.int .i64) w A0 l0.length l0) (hc0 : l0.length ≤ c0) (hr1 : Kd.C (Kd.int .i64) w A1 l1.length l1) (hc1 : l1.length ≤ c1) (h : caesuraref0_SameInts.f k l0 l1 = some r) :
  Calls Tryd.prog 16 #[.slice A0 l0.length c0, .slice A1 l1.length c1] w fun e w' => e = .returned (.bool r) ∧ Drawn0 w w' := by
 have HR0 := Aside0.mk hr0
 have HC0 := Aside0.mk hc0
 clear hr0 hc0
 have HR1 := Aside0.mk hr1
 have HC1 := Aside0.mk hc1
 clear hr1 hc1
 have H : (if (l0.length : Int) = (l1.length : Int) then (caesuraref0_SameInts.l0 k l0 l1 0) else (some false)) = some r := h
 clear h
 by_cases c3 : (l0.length : Int) = (l1.length : Int)
 ·rw [if_pos c3] at H
  have c3b0 : ((l0.length : Int) == (l1.length : Int)) = true := beq_iff_eq.mpr c3
  have c3b1 : ((l0.length : Int) != (l1.length : Int)) = false := bne_eq_false_iff_eq.mpr c3
  have c3b2 : (l0.length == l1.length) = true := by first | simpa using c3 | (simp at c3 ⊢; omega)
  clear c3
  have H' := Aside0.mk H
  clear H
  go_enter Tryd.func16, Tryd.ntmps16
  go_wp2
  repeat (go_quiet (fail); try go_wp2)
  go_loopg [5] k (fun kq v5 w' => ∃ (x5_1 : Int), v5 = .int .i64 x5_1 ∧ Aside0 (caesuraref0_SameInts.l0 kq l0 l1 x5_1 = some r) ∧ Aside0 (kq ≤ k) ∧ Drawn0 w w')
  case atStart => exact ⟨(0), (by first | rfl | (simp; done) | (simp [*]; done)), H', ⟨Nat.le_refl _⟩, by repeat (first | exact Drawn0.refl _ | apply Drawn0.step)⟩
  case round =>
   clear H'
   try clear c1
   try clear p2
   try clear c3
   try clear c3b0
   try clear c3b1
   try clear c3b2
   obtain ⟨x5_1, rfl, HA, HK1, ⟨m1, rfl⟩⟩ := hrel
   cases gk with
   | zero => exact absurd HA.out (by simp [caesuraref0_SameInts.l0])
   | succ k1 =>
    have H := HA.out
    clear HA
    simp only [caesuraref0_SameInts.l0] at H
    by_cases c4 : x5_1 < (l0.length : Int)
    ·rw [if_pos c4] at H
     have c4b0 : decide (x5_1 < (l0.length : Int)) = true := decide_eq_true c4
     clear c4
     by_cases c5 : 0 ≤ x5_1
     ·rw [if_pos c5] at H
      have c5b0 : decide (0 ≤ x5_1) = true := decide_eq_true c5
      clear c5
      by_cases c6 : x5_1 < (l1.length : Int)
      ·rw [if_pos c6] at H
       have c6b0 : decide (x5_1 < (l1.length : Int)) = true := decide_eq_true c6
       clear c6
       by_cases c7 : (rd l0 x5_1) = (rd l1 x5_1)
       ·rw [if_pos c7] at H
        have c7b0 : ((rd l0 x5_1) == (rd l1 x5_1)) = true := beq_iff_eq.mpr c7
        have c7b1 : ((rd l0 x5_1) != (rd l1 x5_1)) = false := bne_eq_false_iff_eq.mpr c7
        clear c7
        have H' := Aside0.mk H
        clear H
        have p150 : 0 ≤ (x5_1 : Int) := of_decide_eq_true (by first | (with_reducible assumption) | assumption)
        have q150 : x5_1 < (l0.length : Int) := of_decide_eq_true (by first | (with_reducible assumption) | assumption)
        obtain ⟨ad150, e150, hx150_0⟩ := Kd.at_int HR0.out x5_1 p150 q150
        cases e150
        replace p150 := eq_true p150
        replace q150 := eq_true q150
        have p151 : 0 ≤ (x5_1 : Int) := of_decide_eq_true (by first | (with_reducible assumption) | assumption)
        have q151 : x5_1 < (l1.length : Int) := of_decide_eq_true (by first | (with_reducible assumption) | assumption)
        obtain ⟨ad151, e151, hx151_0⟩ := Kd.at_int HR1.out x5_1 p151 q151
        cases e151
        replace p151 := eq_true p151
        replace q151 := eq_true q151
        go_wp2
        repeat (go_quiet (fail); try go_wp2)
        go_roundg k1
        case measure => have := HK1.out; omega
        case rel => exact ⟨(wrap64 (x5_1 + 1)), (by first | rfl | (simp; done) | (simp [*]; done)), H', ⟨by have := HK1.out; omega⟩, by repeat (first | exact Drawn0.refl _ | apply Drawn0.step)⟩
       ·rw [if_neg c7] at H
        have c7b0 : ((rd l0 x5_1) == (rd l1 x5_1)) = false := beq_eq_false_iff_ne.mpr c7
        have c7b1 : ((rd l0 x5_1) != (rd l1 x5_1)) = true := bne_iff_ne.mpr c7
        obtain rfl := Option.some.inj H
        have p150 : 0 ≤ (x5_1 : Int) := of_decide_eq_true (by first | (with_reducible assumption) | assumption)
        have q150 : x5_1 < (l0.length : Int) := of_decide_eq_true (by first | (with_reducible assumption) | assumption)
        obtain ⟨ad150, e150, hx150_0⟩ := Kd.at_int HR0.out x5_1 p150 q150
        cases e150
        replace p150 := eq_true p150
        replace q150 := eq_true q150
        have p151 : 0 ≤ (x5_1 : Int) := of_decide_eq_true (by first | (with_reducible assumption) | assumption)
        have q151 : x5_1 < (l1.length : Int) := of_decide_eq_true (by first | (with_reducible assumption) | assumption)
        obtain ⟨ad151, e151, hx151_0⟩ := Kd.at_int HR1.out x5_1 p151 q151
        cases e151
        replace p151 := eq_true p151
        replace q151 := eq_true q151
        go_wp2
        repeat (go_quiet (fail); try go_wp2)
        go_ret
        exact ⟨by first | rfl | (simp; done) | (simp [*]; done), by repeat (first | exact Drawn0.refl _ | apply Drawn0.step)⟩
      ·rw [if_neg c6] at H
       exact absurd H (by simp)
     ·rw [if_neg c5] at H
      exact absurd H (by simp)
    ·rw [if_neg c4] at H
     have c4b0 : decide (x5_1 < (l0.length : Int)) = false := decide_eq_false c4
     clear c4
     obtain rfl := Option.some.inj H
     go_wp2
     repeat (go_quiet (fail); try go_wp2)
     go_ret
     exact ⟨by first | rfl | (simp; done) | (simp [*]; done), by repeat (first | exact Drawn0.refl _ | apply Drawn0.step)⟩
 ·rw [if_neg c3] at H
  have c3b0 : ((l0.length : Int) == (l1.length : Int)) = false := beq_eq_false_iff_ne.mpr c3
  have c3b1 : ((l0.length : Int) != (l1.length : Int)) = true := bne_iff_ne.mpr c3
  have c3b2 : (l0.length == l1.length) = false := by first | simpa using c3 | (simp at c3 ⊢; omega)
  obtain rfl := Option.some.inj H
  go_enter Tryd.func16, Tryd.ntmps16
  go_wp2
  repeat (go_quiet (fail); try go_wp2)
  go_ret
  exact ⟨by first | rfl | (simp; done) | (simp [*]; done), by repeat (first | exact Drawn0.refl _ | apply Drawn0.step)⟩
end Go.Proofs.YtfonajakaimnoaaDoor.Lib

namespace Go.Proofs.YtfonajakaimnoaaDoor.Lib
open Go.RowKit Go.Proofs.YtfonajakaimnoaaDoorW.PrintWords Go.Proofs.YtfonajakaimnoaaDoorW.PrintLast Go.Proofs.YtfonajakaimnoaaDoorW.PrintMore
attribute [local go_sem] max2_int min2_int max_two min_two max_three min_three max_four min_four   -- for this text's walks alone
set_option linter.unusedVariables false
set_option linter.unusedSimpArgs false
def caesuraref0_SameRows.l0 : Nat → List (List Int) → List (List Int) → Int → Option (Bool)
 | 0, _, _, _ => none
 | k + 1, x0, x1, x5 => if x5 < (x0.length : Int) then (if 0 ≤ x5 then (if x5 < (x1.length : Int) then ((caesuraref0_SameInts.f k (rd_L1 x0 x5) (rd_L1 x1 x5)).bind fun t154 => (if t154 = true then (caesuraref0_SameRows.l0 k x0 x1 (wrap64 (x5 + 1))) else (some false))) else (none)) else (none)) else (some true)
def caesuraref0_SameRows.f (k : Nat) (l0 : List (List Int)) (l1 : List (List Int)) : Option (Bool) := if (l0.length : Int) = (l1.length : Int) then (caesuraref0_SameRows.l0 k l0 l1 0) else (some false)
set_option maxHeartbeats 8000000 in
set_option maxRecDepth 100000 in
theorem caesuraref0_SameRows.calls (k : Nat) (A0 : Option Addr) (c0 : Nat) (l0 : List (List Int)) (A1 : Option Addr) (c1 : Nat) (l1 : List (List Int)) (r : Bool) (w : World) (hr0 : Kd.C (Kd.slice 3 (Kd.int .i64)) w A0 l0.length l0) (hc0 : l0.length ≤ c0) (hr1 : Kd.C (Kd.slice 3 (Kd.int .i64)) w A1 l1.length l1) (hc1 : l1.length ≤ c1) (h : caesuraref0_SameRows.f k l0 l1 = some r) :
  Calls Tryd.prog 83 #[.slice A0 l0.length c0, .slice A1 l1.length c1] w fun e w' => e = .returned (.bool r) ∧ Drawn0 w w' := by
 have HR0 := Aside0.mk hr0
 have HC0 := Aside0.mk hc0
 clear hr0 hc0
 have HR1 := Aside0.mk hr1
 have HC1 := Aside0.mk hc1
 clear hr1 hc1
 have H : (if (l0.length : Int) = (l1.length : Int) then (caesuraref0_SameRows.l0 k l0 l1 0) else (some false)) = some r := h
 clear h
 by_cases c3 : (l0.length : Int) = (l1.length : Int)
 ·rw [if_pos c3] at H
  have c3b0 : ((l0.length : Int) == (l1.length : Int)) = true := beq_iff_eq.mpr c3
  have c3b1 : ((l0.length : Int) != (l1.length : Int)) = false := bne_eq_false_iff_eq.mpr c3
  have c3b2 : (l0.length == l1.length) = true := by first | simpa using c3 | (simp at c3 ⊢; omega)
  clear c3
  have H' := Aside0.mk H
  clear H
  go_enter Tryd.func83, Tryd.ntmps83
  go_wp2
  repeat (go_quiet (fail); try go_wp2)
  go_loopg [5] k (fun kq v5 w' => ∃ (x5_1 : Int), v5 = .int .i64 x5_1 ∧ Aside0 (caesuraref0_SameRows.l0 kq l0 l1 x5_1 = some r) ∧ Aside0 (kq ≤ k) ∧ Drawn0 w w')
  case atStart => exact ⟨(0), (by first | rfl | (simp; done) | (simp [*]; done)), H', ⟨Nat.le_refl _⟩, by repeat (first | exact Drawn0.refl _ | apply Drawn0.step)⟩
  case round =>
   clear H'
   try clear c1
   try clear p2
   try clear c3
   try clear c3b0
   try clear c3b1
   try clear c3b2
   obtain ⟨x5_1, rfl, HA, HK1, ⟨m1, rfl⟩⟩ := hrel
   cases gk with
   | zero => exact absurd HA.out (by simp [caesuraref0_SameRows.l0])
   | succ k1 =>
    have H := HA.out
    clear HA
    simp only [caesuraref0_SameRows.l0] at H
    by_cases c4 : x5_1 < (l0.length : Int)
    ·rw [if_pos c4] at H
     have c4b0 : decide (x5_1 < (l0.length : Int)) = true := decide_eq_true c4
     clear c4
     by_cases c5 : 0 ≤ x5_1
     ·rw [if_pos c5] at H
      have c5b0 : decide (0 ≤ x5_1) = true := decide_eq_true c5
      clear c5
      by_cases c6 : x5_1 < (l1.length : Int)
      ·rw [if_pos c6] at H
       have c6b0 : decide (x5_1 < (l1.length : Int)) = true := decide_eq_true c6
       clear c6
       replace H := Option.bind_eq_some_iff.mp H
       obtain ⟨t154, A70, H⟩ := H
       replace H : (if t154 = true then (caesuraref0_SameRows.l0 k1 l0 l1 (wrap64 (x5_1 + 1))) else (some false)) = some r := H
       have A7 := Aside0.mk A70
       clear A70
       by_cases c8 : t154 = true
       ·subst c8
        have H1 : (caesuraref0_SameRows.l0 k1 l0 l1 (wrap64 (x5_1 + 1))) = some r := by rw [if_pos rfl] at H; exact H
        clear H
        have H := H1
        clear H1
        have H' := Aside0.mk H
        clear H
        have p152 : 0 ≤ (x5_1 : Int) := of_decide_eq_true (by first | (with_reducible assumption) | assumption)
        have q152 : x5_1 < (l0.length : Int) := of_decide_eq_true (by first | (with_reducible assumption) | assumption)
        obtain ⟨ad152, A152_0, c152_0, e152, hx152_0, hl152_0, hi152_0⟩ := at_L1 HR0.out x5_1 p152 q152
        cases e152
        have HR152_0 := Aside0.mk hi152_0
        have HC152_0 := Aside0.mk hl152_0
        clear hi152_0 hl152_0
        replace p152 := eq_true p152
        replace q152 := eq_true q152
        have p153 : 0 ≤ (x5_1 : Int) := of_decide_eq_true (by first | (with_reducible assumption) | assumption)
        have q153 : x5_1 < (l1.length : Int) := of_decide_eq_true (by first | (with_reducible assumption) | assumption)
        obtain ⟨ad153, A153_0, c153_0, e153, hx153_0, hl153_0, hi153_0⟩ := at_L1 HR1.out x5_1 p153 q153
        cases e153
        have HR153_0 := Aside0.mk hi153_0
        have HC153_0 := Aside0.mk hl153_0
        clear hi153_0 hl153_0
        replace p153 := eq_true p153
        replace q153 := eq_true q153
        go_wp2_with (first | (go_at_call 16; (with_reducible refine (caesuraref0_SameInts.calls k1 _ _ (rd_L1 l0 x5_1) _ _ (rd_L1 l1 x5_1) true _ ?side1 ?side2 ?side3 ?side4 A7.out).mono ?_); (case side1 => repeat (first | exact HR152_0.out | (with_reducible refine Kd.C_alloc ?_ _) | (with_reducible refine Kd.C_drewN ?_ _) | (with_reducible refine Kd.C_drew ?_))); (case side2 => exact HC152_0.out); (case side3 => repeat (first | exact HR153_0.out | (with_reducible refine Kd.C_alloc ?_ _) | (with_reducible refine Kd.C_drewN ?_ _) | (with_reducible refine Kd.C_drew ?_))); (case side4 => exact HC153_0.out); rintro e w' ⟨rfl, ⟨nd, rfl⟩⟩; (try first | exact ⟨rfl, _, World.drewN_drewN _ _ _⟩ | exact ⟨rfl, _, Eq.trans (World.drewN_drewN _ _ _) (congrArg (World.drewN _) (Nat.add_assoc _ _ _))⟩)))
        repeat (go_quiet (first | (go_at_call 16; (with_reducible refine (caesuraref0_SameInts.calls k1 _ _ (rd_L1 l0 x5_1) _ _ (rd_L1 l1 x5_1) true _ ?side1 ?side2 ?side3 ?side4 A7.out).mono ?_); (case side1 => repeat (first | exact HR152_0.out | (with_reducible refine Kd.C_alloc ?_ _) | (with_reducible refine Kd.C_drewN ?_ _) | (with_reducible refine Kd.C_drew ?_))); (case side2 => exact HC152_0.out); (case side3 => repeat (first | exact HR153_0.out | (with_reducible refine Kd.C_alloc ?_ _) | (with_reducible refine Kd.C_drewN ?_ _) | (with_reducible refine Kd.C_drew ?_))); (case side4 => exact HC153_0.out); rintro e w' ⟨rfl, ⟨nd, rfl⟩⟩; (try first | exact ⟨rfl, _, World.drewN_drewN _ _ _⟩ | exact ⟨rfl, _, Eq.trans (World.drewN_drewN _ _ _) (congrArg (World.drewN _) (Nat.add_assoc _ _ _))⟩))); try go_wp2_with (first | (go_at_call 16; (with_reducible refine (caesuraref0_SameInts.calls k1 _ _ (rd_L1 l0 x5_1) _ _ (rd_L1 l1 x5_1) true _ ?side1 ?side2 ?side3 ?side4 A7.out).mono ?_); (case side1 => repeat (first | exact HR152_0.out | (with_reducible refine Kd.C_alloc ?_ _) | (with_reducible refine Kd.C_drewN ?_ _) | (with_reducible refine Kd.C_drew ?_))); (case side2 => exact HC152_0.out); (case side3 => repeat (first | exact HR153_0.out | (with_reducible refine Kd.C_alloc ?_ _) | (with_reducible refine Kd.C_drewN ?_ _) | (with_reducible refine Kd.C_drew ?_))); (case side4 => exact HC153_0.out); rintro e w' ⟨rfl, ⟨nd, rfl⟩⟩; (try first | exact ⟨rfl, _, World.drewN_drewN _ _ _⟩ | exact ⟨rfl, _, Eq.trans (World.drewN_drewN _ _ _) (congrArg (World.drewN _) (Nat.add_assoc _ _ _))⟩))))
        go_roundg k1
        case measure => have := HK1.out; omega
        case rel => exact ⟨(wrap64 (x5_1 + 1)), (by first | rfl | (simp; done) | (simp [*]; done)), H', ⟨by have := HK1.out; omega⟩, by repeat (first | exact Drawn0.refl _ | apply Drawn0.step)⟩
       ·replace c8 := Bool.eq_false_iff.mpr c8
        subst c8
        have H1 : (some false) = some r := by rw [if_neg (show ¬ (false = true) by decide)] at H; exact H
        clear H
        have H := H1
        clear H1
        obtain rfl := Option.some.inj H
        have p152 : 0 ≤ (x5_1 : Int) := of_decide_eq_true (by first | (with_reducible assumption) | assumption)
        have q152 : x5_1 < (l0.length : Int) := of_decide_eq_true (by first | (with_reducible assumption) | assumption)
        obtain ⟨ad152, A152_0, c152_0, e152, hx152_0, hl152_0, hi152_0⟩ := at_L1 HR0.out x5_1 p152 q152
        cases e152
        have HR152_0 := Aside0.mk hi152_0
        have HC152_0 := Aside0.mk hl152_0
        clear hi152_0 hl152_0
        replace p152 := eq_true p152
        replace q152 := eq_true q152
        have p153 : 0 ≤ (x5_1 : Int) := of_decide_eq_true (by first | (with_reducible assumption) | assumption)
        have q153 : x5_1 < (l1.length : Int) := of_decide_eq_true (by first | (with_reducible assumption) | assumption)
        obtain ⟨ad153, A153_0, c153_0, e153, hx153_0, hl153_0, hi153_0⟩ := at_L1 HR1.out x5_1 p153 q153
        cases e153
        have HR153_0 := Aside0.mk hi153_0
        have HC153_0 := Aside0.mk hl153_0
        clear hi153_0 hl153_0
        replace p153 := eq_true p153
        replace q153 := eq_true q153
        go_wp2_with (first | (go_at_call 16; (with_reducible refine (caesuraref0_SameInts.calls k1 _ _ (rd_L1 l0 x5_1) _ _ (rd_L1 l1 x5_1) false _ ?side1 ?side2 ?side3 ?side4 A7.out).mono ?_); (case side1 => repeat (first | exact HR152_0.out | (with_reducible refine Kd.C_alloc ?_ _) | (with_reducible refine Kd.C_drewN ?_ _) | (with_reducible refine Kd.C_drew ?_))); (case side2 => exact HC152_0.out); (case side3 => repeat (first | exact HR153_0.out | (with_reducible refine Kd.C_alloc ?_ _) | (with_reducible refine Kd.C_drewN ?_ _) | (with_reducible refine Kd.C_drew ?_))); (case side4 => exact HC153_0.out); rintro e w' ⟨rfl, ⟨nd, rfl⟩⟩; (try first | exact ⟨rfl, _, World.drewN_drewN _ _ _⟩ | exact ⟨rfl, _, Eq.trans (World.drewN_drewN _ _ _) (congrArg (World.drewN _) (Nat.add_assoc _ _ _))⟩)))
        repeat (go_quiet (first | (go_at_call 16; (with_reducible refine (caesuraref0_SameInts.calls k1 _ _ (rd_L1 l0 x5_1) _ _ (rd_L1 l1 x5_1) false _ ?side1 ?side2 ?side3 ?side4 A7.out).mono ?_); (case side1 => repeat (first | exact HR152_0.out | (with_reducible refine Kd.C_alloc ?_ _) | (with_reducible refine Kd.C_drewN ?_ _) | (with_reducible refine Kd.C_drew ?_))); (case side2 => exact HC152_0.out); (case side3 => repeat (first | exact HR153_0.out | (with_reducible refine Kd.C_alloc ?_ _) | (with_reducible refine Kd.C_drewN ?_ _) | (with_reducible refine Kd.C_drew ?_))); (case side4 => exact HC153_0.out); rintro e w' ⟨rfl, ⟨nd, rfl⟩⟩; (try first | exact ⟨rfl, _, World.drewN_drewN _ _ _⟩ | exact ⟨rfl, _, Eq.trans (World.drewN_drewN _ _ _) (congrArg (World.drewN _) (Nat.add_assoc _ _ _))⟩))); try go_wp2_with (first | (go_at_call 16; (with_reducible refine (caesuraref0_SameInts.calls k1 _ _ (rd_L1 l0 x5_1) _ _ (rd_L1 l1 x5_1) false _ ?side1 ?side2 ?side3 ?side4 A7.out).mono ?_); (case side1 => repeat (first | exact HR152_0.out | (with_reducible refine Kd.C_alloc ?_ _) | (with_reducible refine Kd.C_drewN ?_ _) | (with_reducible refine Kd.C_drew ?_))); (case side2 => exact HC152_0.out); (case side3 => repeat (first | exact HR153_0.out | (with_reducible refine Kd.C_alloc ?_ _) | (with_reducible refine Kd.C_drewN ?_ _) | (with_reducible refine Kd.C_drew ?_))); (case side4 => exact HC153_0.out); rintro e w' ⟨rfl, ⟨nd, rfl⟩⟩; (try first | exact ⟨rfl, _, World.drewN_drewN _ _ _⟩ | exact ⟨rfl, _, Eq.trans (World.drewN_drewN _ _ _) (congrArg (World.drewN _) (Nat.add_assoc _ _ _))⟩))))
        go_ret
        exact ⟨by first | rfl | (simp; done) | (simp [*]; done), by repeat (first | exact Drawn0.refl _ | apply Drawn0.step)⟩
      ·rw [if_neg c6] at H
       exact absurd H (by simp)
     ·rw [if_neg c5] at H
      exact absurd H (by simp)
    ·rw [if_neg c4] at H
     have c4b0 : decide (x5_1 < (l0.length : Int)) = false := decide_eq_false c4
     clear c4
     obtain rfl := Option.some.inj H
     go_wp2
     repeat (go_quiet (fail); try go_wp2)
     go_ret
     exact ⟨by first | rfl | (simp; done) | (simp [*]; done), by repeat (first | exact Drawn0.refl _ | apply Drawn0.step)⟩
 ·rw [if_neg c3] at H
  have c3b0 : ((l0.length : Int) == (l1.length : Int)) = false := beq_eq_false_iff_ne.mpr c3
  have c3b1 : ((l0.length : Int) != (l1.length : Int)) = true := bne_iff_ne.mpr c3
  have c3b2 : (l0.length == l1.length) = false := by first | simpa using c3 | (simp at c3 ⊢; omega)
  obtain rfl := Option.some.inj H
  go_enter Tryd.func83, Tryd.ntmps83
  go_wp2
  repeat (go_quiet (fail); try go_wp2)
  go_ret
  exact ⟨by first | rfl | (simp; done) | (simp [*]; done), by repeat (first | exact Drawn0.refl _ | apply Drawn0.step)⟩
end Go.Proofs.YtfonajakaimnoaaDoor.Lib

namespace Go.Proofs.YtfonajakaimnoaaDoor.C11
open Go.RowKit Go.Proofs.YtfonajakaimnoaaDoorW.PrintWords Go.Proofs.YtfonajakaimnoaaDoorW.PrintLast Go.Proofs.YtfonajakaimnoaaDoorW.PrintMore Go.Proofs.YtfonajakaimnoaaDoor.Lib Lent Go.Proofs.YtfonajakaimnoaaDoor.Fn
set_option linter.unusedVariables false
set_option linter.unusedSimpArgs false
theorem sameInts_loop (l : List Int) (hl : l.length ≤ 9223372036854775807) : ∀ (d i k : Nat), i ≤ l.length → l.length - i = d → d < k → caesuraref0_SameInts.l0 k l l i = some true := by
 intro d
 induction d with
 | zero =>
  intro i k hi hd hk
  obtain ⟨k, rfl⟩ : ∃ m, k = m + 1 := ⟨k - 1, by omega⟩
  simp only [caesuraref0_SameInts.l0]
  rw [if_neg (by omega)]
 | succ d ih =>
  intro i k hi hd hk
  obtain ⟨k, rfl⟩ : ∃ m, k = m + 1 := ⟨k - 1, by omega⟩
  have hw : wrap64 ((i : Int) + 1) = ((i + 1 : Nat) : Int) := by rw [wrap_succ (n := l.length) (by omega) (by omega) (by omega)]; omega
  simp only [caesuraref0_SameInts.l0]
  rw [if_pos (by omega), if_pos (by omega), if_pos (by omega), hw]
  simp only [if_true]
  exact ih (i + 1) k (by omega) (by omega) (by omega)
theorem sameInts_ev (l : List Int) (hl : l.length ≤ 9223372036854775807) : Ev (fun k => caesuraref0_SameInts.f k l l) true :=
 ⟨l.length + 1, fun k hk => by
  show caesuraref0_SameInts.f k l l = some true
  unfold caesuraref0_SameInts.f
  rw [if_pos rfl]
  exact sameInts_loop l hl l.length 0 k (by omega) (by omega) (by omega)⟩
theorem sameRows_loop (l : LL) (hl : l.length ≤ 9223372036854775807) (hr : ∀ x ∈ l, x.length ≤ 9223372036854775807) : ∀ (d i : Nat), i ≤ l.length → l.length - i = d → Ev (fun k => caesuraref0_SameRows.l0 k l l i) true := by
 intro d
 induction d with
 | zero =>
  intro i hi hd
  refine Ev.step (f := fun _ => some true) (fun k => ?_) (Ev.now _)
  simp only [caesuraref0_SameRows.l0]
  rw [if_neg (by omega)]
 | succ d ih =>
  intro i hi hd
  have hw : wrap64 ((i : Int) + 1) = ((i + 1 : Nat) : Int) := by rw [wrap_succ (n := l.length) (by omega) (by omega) (by omega)]; omega
  have hrow : (rd_L1 l (i : Int)).length ≤ 9223372036854775807 := by
   unfold rd_L1
   rw [List.getD_eq_getElem?_getD]
   cases h : l[((i : Int)).toNat]? with
   | none => simp
   | some y => exact hr y (List.mem_of_getElem? h)
  refine Ev.step (f := fun k => (caesuraref0_SameInts.f k (rd_L1 l i) (rd_L1 l i)).bind fun t => if t = true then caesuraref0_SameRows.l0 k l l ((i + 1 : Nat) : Int) else some false) (fun k => ?_) (Ev.bind (sameInts_ev _ hrow) (Ev.congr (fun k => if_pos rfl) (ih (i + 1) (by omega) (by omega))))
  conv => lhs; unfold caesuraref0_SameRows.l0
  rw [if_pos (by omega), if_pos (by omega), if_pos (by omega), hw]
theorem sameRows_ev (l : LL) (hl : l.length ≤ 9223372036854775807) (hr : ∀ x ∈ l, x.length ≤ 9223372036854775807) : Ev (fun k => caesuraref0_SameRows.f k l l) true :=
 Ev.congr (fun k => by unfold caesuraref0_SameRows.f; rw [if_pos rfl]; rfl) (sameRows_loop l hl hr l.length 0 (by omega) (by omega))
end Go.Proofs.YtfonajakaimnoaaDoor.C11

namespace Go.Proofs.YtfonajakaimnoaaDoor.C11
open Go.RowKit Go.ChangeShapes Go.Proofs.YtfonajakaimnoaaDoorW.PrintWords Go.Proofs.YtfonajakaimnoaaDoorW.PrintLast Go.Proofs.YtfonajakaimnoaaDoorW.PrintMore Lent
set_option linter.unusedVariables false
set_option linter.unusedSimpArgs false
set_option maxRecDepth 100000
theorem errRow (u : TypeId) (h : Tryd.prog.typeName? 3 u = some "*errors.errorString") : u = 162 :=
 typeName_ptr_named (nm := "errors.errorString") (by rw [show "*" ++ "errors.errorString" = "*errors.errorString" from by decide +kernel]; kernel_rfl) (by kernel_rfl) (by decide) u (by rw [show "*" ++ "errors.errorString" = "*errors.errorString" from by decide +kernel]; exact h)
abbrev errV (a : Addr) : Value := .iface 162 (.pointer (some a))
structure Sen (a0 a1 a2 : Addr) (W : World) : Prop where
 h0 : W.cell? ⟨0, 0, none⟩ = some (errV a0)
 h1 : W.cell? ⟨1, 0, none⟩ = some (errV a1)
 h2 : W.cell? ⟨2, 0, none⟩ = some (errV a2)
 k0 : ∃ c t, W.heap[a0.block]? = some (.cells c t (0, 0))
 k1 : ∃ c t, W.heap[a1.block]? = some (.cells c t (0, 0))
 k2 : ∃ c t, W.heap[a2.block]? = some (.cells c t (0, 0))
 n01 : a0 ≠ a1
 n02 : a0 ≠ a2
 n12 : a1 ≠ a2
theorem Sen.step {a0 a1 a2 : Addr} {W W' : World} (h : Sen a0 a1 a2 W) (hb : Below W.heap.size W W') : Sen a0 a1 a2 W' :=
 ⟨pw_cell_below hb h.h0, pw_cell_below hb h.h1, pw_cell_below hb h.h2, h.k0.imp fun _ ⟨t, e⟩ => ⟨t, (hb.block _ (blk_lt e)).trans e⟩, h.k1.imp fun _ ⟨t, e⟩ => ⟨t, (hb.block _ (blk_lt e)).trans e⟩, h.k2.imp fun _ ⟨t, e⟩ => ⟨t, (hb.block _ (blk_lt e)).trans e⟩, h.n01, h.n02, h.n12⟩
theorem sen_of_laid {W : World} {n0 n1 n2 : String} {x0 x1 x2 : List UInt8} {r : List (String × DataW Unit)} (e0 : n0 = "caesura/api.ErrArg") (e1 : n1 = "caesura/api.ErrText") (e2 : n2 = "caesura/api.ErrMany")
  (h : laidMet Tryd.prog ((n0, .iface "*errors.errorString" (.ptr (.agg [.lit (.string x0)]))) :: (n1, .iface "*errors.errorString" (.ptr (.agg [.lit (.string x1)]))) :: (n2, .iface "*errors.errorString" (.ptr (.agg [.lit (.string x2)]))) :: r) W) :
  ∃ a0 a1 a2, Sen a0 a1 a2 W := by
 subst e0 e1 e2
 have G0 : Tryd.prog.globalNamed "caesura/api.ErrArg" = some 0 := by kernel_rfl
 have G1 : Tryd.prog.globalNamed "caesura/api.ErrText" = some 1 := by kernel_rfl
 have G2 : Tryd.prog.globalNamed "caesura/api.ErrMany" = some 2 := by kernel_rfl
 have T0 : (Tryd.prog.globals[(0 : Nat)]?).map (·.type) = some 30 := by kernel_rfl
 have T1 : (Tryd.prog.globals[(1 : Nat)]?).map (·.type) = some 30 := by kernel_rfl
 have T2 : (Tryd.prog.globals[(2 : Nat)]?).map (·.type) = some 30 := by kernel_rfl
 obtain ⟨ps, ⟨g0, t0, cs0, f0, p0, q0, hg0, ht0, hv0, hd0, ⟨g1, t1, cs1, f1, p1, q1, hg1, ht1, hv1, hd1, ⟨g2, t2, cs2, f2, p2, q2, hg2, ht2, hv2, hd2, _, z2⟩, z1⟩, z0⟩, hnd, hrows⟩ := h
 obtain rfl := Option.some.inj (G0.symm.trans hg0)
 obtain rfl := Option.some.inj (G1.symm.trans hg1)
 obtain rfl := Option.some.inj (G2.symm.trans hg2)
 obtain rfl := Option.some.inj (T0.symm.trans ht0)
 obtain rfl := Option.some.inj (T1.symm.trans ht1)
 obtain rfl := Option.some.inj (T2.symm.trans ht2)
 subst z2
 subst z1
 subst z0
 obtain ⟨l0⟩ := cs0
 obtain ⟨l1⟩ := cs1
 obtain ⟨l2⟩ := cs2
 have ok0 : ∀ u v, l0 = [.iface u v] → Value.okWide Tryd.prog W .any 0 u v := fun u v e => by
  subst e
  exact (hrows 0 0 (by simp [MemPlace.row])).2 u v (by simpa using World.var?_cell hg0 hv0 0)
 have ok1 : ∀ u v, l1 = [.iface u v] → Value.okWide Tryd.prog W .any 0 u v := fun u v e => by
  subst e
  exact (hrows 1 0 (by simp [MemPlace.row])).2 u v (by simpa using World.var?_cell hg1 hv1 0)
 have ok2 : ∀ u v, l2 = [.iface u v] → Value.okWide Tryd.prog W .any 0 u v := fun u v e => by
  subst e
  exact (hrows 2 0 (by simp [MemPlace.row])).2 u v (by simpa using World.var?_cell hg2 hv2 0)
 have c1 : Tryd.prog.cellsOf 177 = 1 := by kernel_rfl
 have c2 : Tryd.prog.cellsOf 9 = 1 := by kernel_rfl
 obtain ⟨a0, s0, rfl, hc0, hs0, hz0, rfl⟩ := errorString_of_trod Tryd.underlying30 errRow Tryd.underlying162 Tryd.underlying177 rfl rfl Tryd.underlying9 c1 c2 hd0 ok0
 obtain ⟨a1, s1, rfl, hc1, hs1, hz1, rfl⟩ := errorString_of_trod Tryd.underlying30 errRow Tryd.underlying162 Tryd.underlying177 rfl rfl Tryd.underlying9 c1 c2 hd1 ok1
 obtain ⟨a2, s2, rfl, hc2, hs2, hz2, rfl⟩ := errorString_of_trod Tryd.underlying30 errRow Tryd.underlying162 Tryd.underlying177 rfl rfl Tryd.underlying9 c1 c2 hd2 ok2
 refine ⟨a0, a1, a2, by simpa using World.var?_cell hg0 hv0 0, by simpa using World.var?_cell hg1 hv1 0, by simpa using World.var?_cell hg2 hv2 0, (hrows a0.block a0.off (by simp [MemPlace.row])).1, (hrows a1.block a1.off (by simp [MemPlace.row])).1, (hrows a2.block a2.off (by simp [MemPlace.row])).1, ?_, ?_, ?_⟩
 ·rintro rfl
  simp [MemPlace.row] at hnd
 ·rintro rfl
  simp [MemPlace.row] at hnd
 ·rintro rfl
  simp [MemPlace.row] at hnd
theorem errInfo : ∃ i j, Tryd.prog.info? 162 = some i ∧ i.comparable = true ∧ Tryd.prog.info? 177 = some j ∧ j.size ≠ 0 := by
 have h1 : (Tryd.prog.info? 162).map (·.comparable) = some true := by kernel_rfl
 have h2 : (Tryd.prog.info? 177).map (·.size) = some 1 := by kernel_rfl
 obtain ⟨i, hi, e1⟩ := Option.map_eq_some_iff.1 h1
 obtain ⟨j, hj, e2⟩ := Option.map_eq_some_iff.1 h2
 exact ⟨i, j, hi, e1, hj, by rw [e2]; decide⟩
theorem eq_same (w : World) (a : Addr) : (binOp .eql 30 (errV a) (errV a)).run Tryd.prog w = .ok (.bool true) w := by
 obtain ⟨i, j, h1, h2, h3, _⟩ := errInfo
 exact run_eql_iface_ptr_same w a Tryd.underlying30 Tryd.underlying162 h1 h2 h3
theorem eq_other (w : World) {a b : Addr} (hne : a ≠ b) (ha : ∃ c t, w.heap[a.block]? = some (.cells c t (0, 0))) (hb : ∃ c t, w.heap[b.block]? = some (.cells c t (0, 0))) : (binOp .eql 30 (errV a) (errV b)).run Tryd.prog w = .ok (.bool false) w := by
 obtain ⟨i, j, h1, h2, h3, h4⟩ := errInfo
 obtain ⟨_, _, ha⟩ := ha
 obtain ⟨_, _, hb⟩ := hb
 exact run_eql_iface_ptr_other w Tryd.underlying30 Tryd.underlying162 h1 h2 h3 h4 hne ha hb
theorem errMeths : Tryd.prog.underlying 30 = some (.interface (Tryd.prog.methodsAt 30)) := by simp [Program.methodsAt, Tryd.underlying30]
set_option maxHeartbeats 1000000 in
theorem num_calls {a0 a1 a2 : Addr} (w : World) (h : Sen a0 a1 a2 w) (c : Nat) (hc : c = 0 ∨ c = 1 ∨ c = 3) :
  Calls Tryd.prog 17 #[errMA (errV a2) (errV a0) c] w fun e w' => e = .returned (.int .i64 c) ∧ Below w.heap.size w w' := by
 have q0 := h.h0
 have q1 := h.h1
 have q2 := h.h2
 rcases hc with rfl | rfl | rfl
 ·have e : errMA (errV a2) (errV a0) 0 = .nilIface := rfl
  rw [e]
  have hn := run_eql_nil_nil (P := Tryd.prog) w 30 errMeths
  clear e h
  go_enter Tryd.func17, Tryd.ntmps17
  go_wp2
  go_ret
  exact ⟨rfl, Below.refl _ _⟩
 ·have e : errMA (errV a2) (errV a0) 1 = errV a0 := rfl
  rw [e]
  have hn := run_eql_held_nil (P := Tryd.prog) w 30 162 (.pointer (some a0)) errMeths
  have hs := eq_same w a0
  clear e h
  go_enter Tryd.func17, Tryd.ntmps17
  go_wp2
  go_ret
  exact ⟨rfl, Below.refl _ _⟩
 ·have e : errMA (errV a2) (errV a0) 3 = errV a2 := rfl
  rw [e]
  have hn := run_eql_held_nil (P := Tryd.prog) w 30 162 (.pointer (some a2)) errMeths
  have hs := eq_same w a2
  have ho0 := eq_other w (Ne.symm h.n02) h.k2 h.k0
  have ho1 := eq_other w (Ne.symm h.n12) h.k2 h.k1
  clear e h
  go_enter Tryd.func17, Tryd.ntmps17
  go_wp2
  go_ret
  exact ⟨rfl, Below.refl _ _⟩
end Go.Proofs.YtfonajakaimnoaaDoor.C11

namespace Go.Proofs.YtfonajakaimnoaaDoor.Lib
open Go.RowKit Go.Proofs.YtfonajakaimnoaaDoorW.PrintWords Go.Proofs.YtfonajakaimnoaaDoorW.PrintLast Go.Proofs.YtfonajakaimnoaaDoorW.PrintMore
attribute [local go_sem] max2_int min2_int max_two min_two max_three min_three max_four min_four   -- for this text's walks alone
set_option linter.unusedVariables false
set_option linter.unusedSimpArgs false
def caesuraref0_SameMachine.f (k : Nat) (a0_0 : Int) (l0_1 : List (List Int)) (l0_2 : List (List Int)) (a1_0 : Int) (l1_1 : List (List Int)) (l1_2 : List (List Int)) : Option (Bool) := (caesuraref0_SameRows.f k l0_1 l1_1).bind fun t649 => ((caesuraref0_SameRows.f k l0_2 l1_2).bind fun t650 => (if t649 = true then (if t650 = true then (some (a0_0 == a1_0)) else (some false)) else (some false)))
set_option maxHeartbeats 8000000 in
set_option maxRecDepth 100000 in
theorem caesuraref0_SameMachine.calls (k : Nat) (a0_0 : Int) (A0_1 : Option Addr) (c0_1 : Nat) (l0_1 : List (List Int)) (A0_2 : Option Addr) (c0_2 : Nat) (l0_2 : List (List Int)) (a1_0 : Int) (A1_1 : Option Addr) (c1_1 : Nat) (l1_1 : List (List Int)) (A1_2 : Option Addr) (c1_2 : Nat) (l1_2 : List (List Int)) (r : Bool) (w : World) (hr0_1 : Kd.C (Kd.slice 3 (Kd.int .i64)) w A0_1 l0_1.length l0_1) (hc0_1 : l0_1.length ≤ c0_1) (hr0_2 : Kd.C (Kd.slice 3 (Kd.int .i64)) w A0_2 l0_2.length l0_2) (hc0_2 : l0_2.length ≤ c0_2) (hr1_1 : Kd.C (Kd.slice 3 (Kd.int .i64)) w A1_1 l1_1.length l1_1) (hc1_1 : l1_1.length ≤ c1_1) (hr1_2 : Kd.C (Kd.slice 3 (Kd.int .i64)) w A1_2 l1_2.length l1_2) (hc1_2 : l1_2.length ≤ c1_2) (h : caesuraref0_SameMachine.f k a0_0 l0_1 l0_2 a1_0 l1_1 l1_2 = some r) :
  Calls Tryd.prog 58 #[.agg #[.int .i64 a0_0, .slice A0_1 l0_1.length c0_1, .slice A0_2 l0_2.length c0_2], .agg #[.int .i64 a1_0, .slice A1_1 l1_1.length c1_1, .slice A1_2 l1_2.length c1_2]] w fun e w' => e = .returned (.bool r) ∧ Below w.heap.size w w' := by
 have hu24 := Tryd.underlying24
 have HR0_1 := Aside0.mk hr0_1
 have HC0_1 := Aside0.mk hc0_1
 clear hr0_1 hc0_1
 have HR0_2 := Aside0.mk hr0_2
 have HC0_2 := Aside0.mk hc0_2
 clear hr0_2 hc0_2
 have HR1_1 := Aside0.mk hr1_1
 have HC1_1 := Aside0.mk hc1_1
 clear hr1_1 hc1_1
 have HR1_2 := Aside0.mk hr1_2
 have HC1_2 := Aside0.mk hc1_2
 clear hr1_2 hc1_2
 have HB := Aside0.mk (Below.refl w.heap.size w)
 have H : ((caesuraref0_SameRows.f k l0_1 l1_1).bind fun t649 => ((caesuraref0_SameRows.f k l0_2 l1_2).bind fun t650 => (if t649 = true then (if t650 = true then (some (a0_0 == a1_0)) else (some false)) else (some false)))) = some r := h
 clear h
 replace H := Option.bind_eq_some_iff.mp H
 obtain ⟨t649, A30, H⟩ := H
 replace H : ((caesuraref0_SameRows.f k l0_2 l1_2).bind fun t650 => (if t649 = true then (if t650 = true then (some (a0_0 == a1_0)) else (some false)) else (some false))) = some r := H
 have A3 := Aside0.mk A30
 clear A30
 replace H := Option.bind_eq_some_iff.mp H
 obtain ⟨t650, A40, H⟩ := H
 replace H : (if t649 = true then (if t650 = true then (some (a0_0 == a1_0)) else (some false)) else (some false)) = some r := H
 have A4 := Aside0.mk A40
 clear A40
 by_cases c5 : t649 = true
 ·subst c5
  have H1 : (if t650 = true then (some (a0_0 == a1_0)) else (some false)) = some r := by rw [if_pos rfl] at H; exact H
  clear H
  have H := H1
  clear H1
  by_cases c6 : t650 = true
  ·subst c6
   have H1 : (some (a0_0 == a1_0)) = some r := by rw [if_pos rfl] at H; exact H
   clear H
   have H := H1
   clear H1
   obtain rfl := Option.some.inj H
   go_enter Tryd.func58, Tryd.ntmps58
   go_wp2_with (first | ((with_reducible refine gate_dst (N := 2) rfl ?_); refine box_event ?hg (N := 2) ?hd (cs := #[.int .i64 a0_0, .slice A0_1 l0_1.length c0_1, .slice A0_2 l0_2.length c0_2]) (t := 24) ?hr ?_; (case hd => rfl); (case hg => rfl); (case hr => first | (go_simp; done) | (go_simp; rfl)); intro gb647 hg w7 hbox hb; have n0_ := Aside0.mk (below_step (by repeat (first | (with_reducible first | exact HB.out | apply below_alloc | apply pw_below_drewN | apply below_drew1) | exact HB.out)) hb); have n1_ := Aside0.mk (hbox); have n2_ := Aside0.mk ((by rw [hg]; exact (below_size (by repeat (first | (with_reducible first | exact HB.out | apply below_alloc | apply pw_below_drewN | apply below_drew1) | exact HB.out))) : w.heap.size ≤ gb647)); have n3_ := Aside0.mk ((by rw [hg]; exact (below_size (by repeat (first | (with_reducible first | exact HB.out | apply below_alloc | apply pw_below_drewN | apply below_drew1) | exact HB.out))) : w.heap.size ≤ gb647)); clear HB; have HB := n0_; have BK647 := n1_; have GW647 := n2_; have GE647 := n3_; clear n0_ n1_ n2_ n3_; clear hb hbox hg) | ((with_reducible refine gate_dst (N := 3) rfl ?_); refine box_event ?hg (N := 3) ?hd (cs := #[.int .i64 a1_0, .slice A1_1 l1_1.length c1_1, .slice A1_2 l1_2.length c1_2]) (t := 24) ?hr ?_; (case hd => rfl); (case hg => rfl); (case hr => first | (go_simp; done) | (go_simp; rfl)); intro gb648 hg w8 hbox hb; have n0_ := Aside0.mk (blk_below (g := gb647) (o := .cells #[.int .i64 a0_0, .slice A0_1 l0_1.length c0_1, .slice A0_2 l0_2.length c0_2] 24 (0, 0)) (by (with_reducible repeat (first | refine blk_drewN ?_ _ | refine blk_drew ?_ | refine blk_alloc ?_ _)); exact BK647.out) hb); have n1_ := Aside0.mk (below_step (by repeat (first | (with_reducible first | exact HB.out | apply below_alloc | apply pw_below_drewN | apply below_drew1 | refine below_set ?_ GE647.out) | exact HB.out)) hb); have n2_ := Aside0.mk (hbox); have n3_ := Aside0.mk ((by rw [hg]; exact (below_size (by repeat (first | (with_reducible first | exact HB.out | apply below_alloc | apply pw_below_drewN | apply below_drew1 | refine below_set ?_ GE647.out) | exact HB.out))) : w.heap.size ≤ gb648)); have n4_ := Aside0.mk ((by rw [hg]; exact (below_size (by repeat (first | (with_reducible first | exact HB.out | apply below_alloc | apply pw_below_drewN | apply below_drew1 | refine below_set ?_ GE647.out) | exact HB.out))) : w.heap.size ≤ gb648)); have n5_ := Aside0.mk ((by rw [hg]; exact Nat.ne_of_lt (blk_lt (g := gb647) (o := .cells #[.int .i64 a0_0, .slice A0_1 l0_1.length c0_1, .slice A0_2 l0_2.length c0_2] 24 (0, 0)) (by (with_reducible repeat (first | refine blk_drewN ?_ _ | refine blk_drew ?_ | refine blk_alloc ?_ _)); exact BK647.out)) : gb647 ≠ gb648)); have n6_ := Aside0.mk ((by rw [hg]; exact Nat.ne_of_gt (blk_lt (g := gb647) (o := .cells #[.int .i64 a0_0, .slice A0_1 l0_1.length c0_1, .slice A0_2 l0_2.length c0_2] 24 (0, 0)) (by (with_reducible repeat (first | refine blk_drewN ?_ _ | refine blk_drew ?_ | refine blk_alloc ?_ _)); exact BK647.out)) : gb648 ≠ gb647)); clear BK647; clear HB; have BK647 := n0_; have HB := n1_; have BK648 := n2_; have GW648 := n3_; have GE648 := n4_; have NB647_648 := n5_; have NB648_647 := n6_; clear n0_ n1_ n2_ n3_ n4_ n5_ n6_; clear hb hbox hg; have hnb9 := NB647_648.out; have hnc9 := NB648_647.out; have hcz10_0 : w8.cell? ⟨gb647, 0, none⟩ = some (.int .i64 a0_0) := (blk_cell BK647.out 0).trans rfl; have hcz10_1 : w8.cell? ⟨gb647, 1, none⟩ = some (.slice A0_1 l0_1.length c0_1) := (blk_cell BK647.out 1).trans rfl; have hcz10_2 : w8.cell? ⟨gb647, 2, none⟩ = some (.slice A0_2 l0_2.length c0_2) := (blk_cell BK647.out 2).trans rfl; have hfz10_0 := blk_frozen BK647.out 0; have hfz10_1 := blk_frozen BK647.out 1; have hfz10_2 := blk_frozen BK647.out 2; have hcz11_0 : w8.cell? ⟨gb648, 0, none⟩ = some (.int .i64 a1_0) := (blk_cell BK648.out 0).trans rfl; have hcz11_1 : w8.cell? ⟨gb648, 1, none⟩ = some (.slice A1_1 l1_1.length c1_1) := (blk_cell BK648.out 1).trans rfl; have hcz11_2 : w8.cell? ⟨gb648, 2, none⟩ = some (.slice A1_2 l1_2.length c1_2) := (blk_cell BK648.out 2).trans rfl; have hfz11_0 := blk_frozen BK648.out 0; have hfz11_1 := blk_frozen BK648.out 1; have hfz11_2 := blk_frozen BK648.out 2) | ((with_reducible refine gate_callee (f := 83) rfl ?_); refine goesL_ (some 11) rfl rfl Tryd.func83 (by kernel_rfl) rfl #[.slice A0_1 l0_1.length c0_1, .slice A1_1 l1_1.length c1_1] rfl (by (try simp only [List.map_toArray, List.map_cons, List.map_nil]); first | done | rfl | (simp only [List.length_drop, List.length_take]; rfl)) ?_; (with_reducible refine (caesuraref0_SameRows.calls k _ _ l0_1 _ _ l1_1 true _ ?side1 ?side2 ?side3 ?side4 A3.out).mono ?_); (case side1 => repeat (first | exact (Kd.C_below HR0_1.out HB.out) | (with_reducible refine Kd.C_alloc ?_ _) | (with_reducible refine Kd.C_drewN ?_ _) | (with_reducible refine Kd.C_drew ?_))); (case side2 => exact HC0_1.out); (case side3 => repeat (first | exact (Kd.C_below HR1_1.out HB.out) | (with_reducible refine Kd.C_alloc ?_ _) | (with_reducible refine Kd.C_drewN ?_ _) | (with_reducible refine Kd.C_drew ?_))); (case side4 => exact HC1_1.out); rintro e w' ⟨rfl, ⟨nd, rfl⟩⟩; refine ⟨_, rfl, ?_⟩) | ((with_reducible refine gate_callee (f := 83) rfl ?_); refine goesL_ (some 16) rfl rfl Tryd.func83 (by kernel_rfl) rfl #[.slice A0_2 l0_2.length c0_2, .slice A1_2 l1_2.length c1_2] rfl (by (try simp only [List.map_toArray, List.map_cons, List.map_nil]); first | done | rfl | (simp only [List.length_drop, List.length_take]; rfl)) ?_; (with_reducible refine (caesuraref0_SameRows.calls k _ _ l0_2 _ _ l1_2 true _ ?side1 ?side2 ?side3 ?side4 A4.out).mono ?_); (case side1 => repeat (first | exact (Kd.C_below HR0_2.out (by repeat (first | (with_reducible first | exact HB.out | apply below_alloc | apply pw_below_drewN | apply below_drew1 | refine below_set ?_ GE647.out | refine below_set ?_ GE648.out) | exact HB.out))) | (with_reducible refine Kd.C_alloc ?_ _) | (with_reducible refine Kd.C_drewN ?_ _) | (with_reducible refine Kd.C_drew ?_))); (case side2 => exact HC0_2.out); (case side3 => repeat (first | exact (Kd.C_below HR1_2.out (by repeat (first | (with_reducible first | exact HB.out | apply below_alloc | apply pw_below_drewN | apply below_drew1 | refine below_set ?_ GE647.out | refine below_set ?_ GE648.out) | exact HB.out))) | (with_reducible refine Kd.C_alloc ?_ _) | (with_reducible refine Kd.C_drewN ?_ _) | (with_reducible refine Kd.C_drew ?_))); (case side4 => exact HC1_2.out); rintro e w' ⟨rfl, ⟨nd, rfl⟩⟩; refine ⟨_, rfl, ?_⟩))
   go_ret
   exact ⟨by first | rfl | (simp [errW_none, errW_some] <;> rfl) | (simp [*, errW_none, errW_some] <;> rfl), by repeat (first | (with_reducible first | exact HB.out | apply below_alloc | apply pw_below_drewN | apply below_drew1 | refine below_set ?_ GE647.out | refine below_set ?_ GE648.out) | exact HB.out)⟩
  ·replace c6 := Bool.eq_false_iff.mpr c6
   subst c6
   have H1 : (some false) = some r := by rw [if_neg (show ¬ (false = true) by decide)] at H; exact H
   clear H
   have H := H1
   clear H1
   obtain rfl := Option.some.inj H
   go_enter Tryd.func58, Tryd.ntmps58
   go_wp2_with (first | ((with_reducible refine gate_dst (N := 2) rfl ?_); refine box_event ?hg (N := 2) ?hd (cs := #[.int .i64 a0_0, .slice A0_1 l0_1.length c0_1, .slice A0_2 l0_2.length c0_2]) (t := 24) ?hr ?_; (case hd => rfl); (case hg => rfl); (case hr => first | (go_simp; done) | (go_simp; rfl)); intro gb647 hg w12 hbox hb; have n0_ := Aside0.mk (below_step (by repeat (first | (with_reducible first | exact HB.out | apply below_alloc | apply pw_below_drewN | apply below_drew1) | exact HB.out)) hb); have n1_ := Aside0.mk (hbox); have n2_ := Aside0.mk ((by rw [hg]; exact (below_size (by repeat (first | (with_reducible first | exact HB.out | apply below_alloc | apply pw_below_drewN | apply below_drew1) | exact HB.out))) : w.heap.size ≤ gb647)); have n3_ := Aside0.mk ((by rw [hg]; exact (below_size (by repeat (first | (with_reducible first | exact HB.out | apply below_alloc | apply pw_below_drewN | apply below_drew1) | exact HB.out))) : w.heap.size ≤ gb647)); clear HB; have HB := n0_; have BK647 := n1_; have GW647 := n2_; have GE647 := n3_; clear n0_ n1_ n2_ n3_; clear hb hbox hg) | ((with_reducible refine gate_dst (N := 3) rfl ?_); refine box_event ?hg (N := 3) ?hd (cs := #[.int .i64 a1_0, .slice A1_1 l1_1.length c1_1, .slice A1_2 l1_2.length c1_2]) (t := 24) ?hr ?_; (case hd => rfl); (case hg => rfl); (case hr => first | (go_simp; done) | (go_simp; rfl)); intro gb648 hg w13 hbox hb; have n0_ := Aside0.mk (blk_below (g := gb647) (o := .cells #[.int .i64 a0_0, .slice A0_1 l0_1.length c0_1, .slice A0_2 l0_2.length c0_2] 24 (0, 0)) (by (with_reducible repeat (first | refine blk_drewN ?_ _ | refine blk_drew ?_ | refine blk_alloc ?_ _)); exact BK647.out) hb); have n1_ := Aside0.mk (below_step (by repeat (first | (with_reducible first | exact HB.out | apply below_alloc | apply pw_below_drewN | apply below_drew1 | refine below_set ?_ GE647.out) | exact HB.out)) hb); have n2_ := Aside0.mk (hbox); have n3_ := Aside0.mk ((by rw [hg]; exact (below_size (by repeat (first | (with_reducible first | exact HB.out | apply below_alloc | apply pw_below_drewN | apply below_drew1 | refine below_set ?_ GE647.out) | exact HB.out))) : w.heap.size ≤ gb648)); have n4_ := Aside0.mk ((by rw [hg]; exact (below_size (by repeat (first | (with_reducible first | exact HB.out | apply below_alloc | apply pw_below_drewN | apply below_drew1 | refine below_set ?_ GE647.out) | exact HB.out))) : w.heap.size ≤ gb648)); have n5_ := Aside0.mk ((by rw [hg]; exact Nat.ne_of_lt (blk_lt (g := gb647) (o := .cells #[.int .i64 a0_0, .slice A0_1 l0_1.length c0_1, .slice A0_2 l0_2.length c0_2] 24 (0, 0)) (by (with_reducible repeat (first | refine blk_drewN ?_ _ | refine blk_drew ?_ | refine blk_alloc ?_ _)); exact BK647.out)) : gb647 ≠ gb648)); have n6_ := Aside0.mk ((by rw [hg]; exact Nat.ne_of_gt (blk_lt (g := gb647) (o := .cells #[.int .i64 a0_0, .slice A0_1 l0_1.length c0_1, .slice A0_2 l0_2.length c0_2] 24 (0, 0)) (by (with_reducible repeat (first | refine blk_drewN ?_ _ | refine blk_drew ?_ | refine blk_alloc ?_ _)); exact BK647.out)) : gb648 ≠ gb647)); clear BK647; clear HB; have BK647 := n0_; have HB := n1_; have BK648 := n2_; have GW648 := n3_; have GE648 := n4_; have NB647_648 := n5_; have NB648_647 := n6_; clear n0_ n1_ n2_ n3_ n4_ n5_ n6_; clear hb hbox hg; have hnb14 := NB647_648.out; have hnc14 := NB648_647.out; have hcz15_0 : w13.cell? ⟨gb647, 0, none⟩ = some (.int .i64 a0_0) := (blk_cell BK647.out 0).trans rfl; have hcz15_1 : w13.cell? ⟨gb647, 1, none⟩ = some (.slice A0_1 l0_1.length c0_1) := (blk_cell BK647.out 1).trans rfl; have hcz15_2 : w13.cell? ⟨gb647, 2, none⟩ = some (.slice A0_2 l0_2.length c0_2) := (blk_cell BK647.out 2).trans rfl; have hfz15_0 := blk_frozen BK647.out 0; have hfz15_1 := blk_frozen BK647.out 1; have hfz15_2 := blk_frozen BK647.out 2; have hcz16_0 : w13.cell? ⟨gb648, 0, none⟩ = some (.int .i64 a1_0) := (blk_cell BK648.out 0).trans rfl; have hcz16_1 : w13.cell? ⟨gb648, 1, none⟩ = some (.slice A1_1 l1_1.length c1_1) := (blk_cell BK648.out 1).trans rfl; have hcz16_2 : w13.cell? ⟨gb648, 2, none⟩ = some (.slice A1_2 l1_2.length c1_2) := (blk_cell BK648.out 2).trans rfl; have hfz16_0 := blk_frozen BK648.out 0; have hfz16_1 := blk_frozen BK648.out 1; have hfz16_2 := blk_frozen BK648.out 2) | ((with_reducible refine gate_callee (f := 83) rfl ?_); refine goesL_ (some 11) rfl rfl Tryd.func83 (by kernel_rfl) rfl #[.slice A0_1 l0_1.length c0_1, .slice A1_1 l1_1.length c1_1] rfl (by (try simp only [List.map_toArray, List.map_cons, List.map_nil]); first | done | rfl | (simp only [List.length_drop, List.length_take]; rfl)) ?_; (with_reducible refine (caesuraref0_SameRows.calls k _ _ l0_1 _ _ l1_1 true _ ?side1 ?side2 ?side3 ?side4 A3.out).mono ?_); (case side1 => repeat (first | exact (Kd.C_below HR0_1.out HB.out) | (with_reducible refine Kd.C_alloc ?_ _) | (with_reducible refine Kd.C_drewN ?_ _) | (with_reducible refine Kd.C_drew ?_))); (case side2 => exact HC0_1.out); (case side3 => repeat (first | exact (Kd.C_below HR1_1.out HB.out) | (with_reducible refine Kd.C_alloc ?_ _) | (with_reducible refine Kd.C_drewN ?_ _) | (with_reducible refine Kd.C_drew ?_))); (case side4 => exact HC1_1.out); rintro e w' ⟨rfl, ⟨nd, rfl⟩⟩; refine ⟨_, rfl, ?_⟩) | ((with_reducible refine gate_callee (f := 83) rfl ?_); refine goesL_ (some 16) rfl rfl Tryd.func83 (by kernel_rfl) rfl #[.slice A0_2 l0_2.length c0_2, .slice A1_2 l1_2.length c1_2] rfl (by (try simp only [List.map_toArray, List.map_cons, List.map_nil]); first | done | rfl | (simp only [List.length_drop, List.length_take]; rfl)) ?_; (with_reducible refine (caesuraref0_SameRows.calls k _ _ l0_2 _ _ l1_2 false _ ?side1 ?side2 ?side3 ?side4 A4.out).mono ?_); (case side1 => repeat (first | exact (Kd.C_below HR0_2.out (by repeat (first | (with_reducible first | exact HB.out | apply below_alloc | apply pw_below_drewN | apply below_drew1 | refine below_set ?_ GE647.out | refine below_set ?_ GE648.out) | exact HB.out))) | (with_reducible refine Kd.C_alloc ?_ _) | (with_reducible refine Kd.C_drewN ?_ _) | (with_reducible refine Kd.C_drew ?_))); (case side2 => exact HC0_2.out); (case side3 => repeat (first | exact (Kd.C_below HR1_2.out (by repeat (first | (with_reducible first | exact HB.out | apply below_alloc | apply pw_below_drewN | apply below_drew1 | refine below_set ?_ GE647.out | refine below_set ?_ GE648.out) | exact HB.out))) | (with_reducible refine Kd.C_alloc ?_ _) | (with_reducible refine Kd.C_drewN ?_ _) | (with_reducible refine Kd.C_drew ?_))); (case side4 => exact HC1_2.out); rintro e w' ⟨rfl, ⟨nd, rfl⟩⟩; refine ⟨_, rfl, ?_⟩))
   go_ret
   exact ⟨by first | rfl | (simp [errW_none, errW_some] <;> rfl) | (simp [*, errW_none, errW_some] <;> rfl), by repeat (first | (with_reducible first | exact HB.out | apply below_alloc | apply pw_below_drewN | apply below_drew1 | refine below_set ?_ GE647.out | refine below_set ?_ GE648.out) | exact HB.out)⟩
 ·replace c5 := Bool.eq_false_iff.mpr c5
  subst c5
  have H1 : (some false) = some r := by rw [if_neg (show ¬ (false = true) by decide)] at H; exact H
  clear H
  have H := H1
  clear H1
  obtain rfl := Option.some.inj H
  go_enter Tryd.func58, Tryd.ntmps58
  go_wp2_with (first | ((with_reducible refine gate_dst (N := 2) rfl ?_); refine box_event ?hg (N := 2) ?hd (cs := #[.int .i64 a0_0, .slice A0_1 l0_1.length c0_1, .slice A0_2 l0_2.length c0_2]) (t := 24) ?hr ?_; (case hd => rfl); (case hg => rfl); (case hr => first | (go_simp; done) | (go_simp; rfl)); intro gb647 hg w17 hbox hb; have n0_ := Aside0.mk (below_step (by repeat (first | (with_reducible first | exact HB.out | apply below_alloc | apply pw_below_drewN | apply below_drew1) | exact HB.out)) hb); have n1_ := Aside0.mk (hbox); have n2_ := Aside0.mk ((by rw [hg]; exact (below_size (by repeat (first | (with_reducible first | exact HB.out | apply below_alloc | apply pw_below_drewN | apply below_drew1) | exact HB.out))) : w.heap.size ≤ gb647)); have n3_ := Aside0.mk ((by rw [hg]; exact (below_size (by repeat (first | (with_reducible first | exact HB.out | apply below_alloc | apply pw_below_drewN | apply below_drew1) | exact HB.out))) : w.heap.size ≤ gb647)); clear HB; have HB := n0_; have BK647 := n1_; have GW647 := n2_; have GE647 := n3_; clear n0_ n1_ n2_ n3_; clear hb hbox hg) | ((with_reducible refine gate_dst (N := 3) rfl ?_); refine box_event ?hg (N := 3) ?hd (cs := #[.int .i64 a1_0, .slice A1_1 l1_1.length c1_1, .slice A1_2 l1_2.length c1_2]) (t := 24) ?hr ?_; (case hd => rfl); (case hg => rfl); (case hr => first | (go_simp; done) | (go_simp; rfl)); intro gb648 hg w18 hbox hb; have n0_ := Aside0.mk (blk_below (g := gb647) (o := .cells #[.int .i64 a0_0, .slice A0_1 l0_1.length c0_1, .slice A0_2 l0_2.length c0_2] 24 (0, 0)) (by (with_reducible repeat (first | refine blk_drewN ?_ _ | refine blk_drew ?_ | refine blk_alloc ?_ _)); exact BK647.out) hb); have n1_ := Aside0.mk (below_step (by repeat (first | (with_reducible first | exact HB.out | apply below_alloc | apply pw_below_drewN | apply below_drew1 | refine below_set ?_ GE647.out) | exact HB.out)) hb); have n2_ := Aside0.mk (hbox); have n3_ := Aside0.mk ((by rw [hg]; exact (below_size (by repeat (first | (with_reducible first | exact HB.out | apply below_alloc | apply pw_below_drewN | apply below_drew1 | refine below_set ?_ GE647.out) | exact HB.out))) : w.heap.size ≤ gb648)); have n4_ := Aside0.mk ((by rw [hg]; exact (below_size (by repeat (first | (with_reducible first | exact HB.out | apply below_alloc | apply pw_below_drewN | apply below_drew1 | refine below_set ?_ GE647.out) | exact HB.out))) : w.heap.size ≤ gb648)); have n5_ := Aside0.mk ((by rw [hg]; exact Nat.ne_of_lt (blk_lt (g := gb647) (o := .cells #[.int .i64 a0_0, .slice A0_1 l0_1.length c0_1, .slice A0_2 l0_2.length c0_2] 24 (0, 0)) (by (with_reducible repeat (first | refine blk_drewN ?_ _ | refine blk_drew ?_ | refine blk_alloc ?_ _)); exact BK647.out)) : gb647 ≠ gb648)); have n6_ := Aside0.mk ((by rw [hg]; exact Nat.ne_of_gt (blk_lt (g := gb647) (o := .cells #[.int .i64 a0_0, .slice A0_1 l0_1.length c0_1, .slice A0_2 l0_2.length c0_2] 24 (0, 0)) (by (with_reducible repeat (first | refine blk_drewN ?_ _ | refine blk_drew ?_ | refine blk_alloc ?_ _)); exact BK647.out)) : gb648 ≠ gb647)); clear BK647; clear HB; have BK647 := n0_; have HB := n1_; have BK648 := n2_; have GW648 := n3_; have GE648 := n4_; have NB647_648 := n5_; have NB648_647 := n6_; clear n0_ n1_ n2_ n3_ n4_ n5_ n6_; clear hb hbox hg; have hnb19 := NB647_648.out; have hnc19 := NB648_647.out; have hcz20_0 : w18.cell? ⟨gb647, 0, none⟩ = some (.int .i64 a0_0) := (blk_cell BK647.out 0).trans rfl; have hcz20_1 : w18.cell? ⟨gb647, 1, none⟩ = some (.slice A0_1 l0_1.length c0_1) := (blk_cell BK647.out 1).trans rfl; have hcz20_2 : w18.cell? ⟨gb647, 2, none⟩ = some (.slice A0_2 l0_2.length c0_2) := (blk_cell BK647.out 2).trans rfl; have hfz20_0 := blk_frozen BK647.out 0; have hfz20_1 := blk_frozen BK647.out 1; have hfz20_2 := blk_frozen BK647.out 2; have hcz21_0 : w18.cell? ⟨gb648, 0, none⟩ = some (.int .i64 a1_0) := (blk_cell BK648.out 0).trans rfl; have hcz21_1 : w18.cell? ⟨gb648, 1, none⟩ = some (.slice A1_1 l1_1.length c1_1) := (blk_cell BK648.out 1).trans rfl; have hcz21_2 : w18.cell? ⟨gb648, 2, none⟩ = some (.slice A1_2 l1_2.length c1_2) := (blk_cell BK648.out 2).trans rfl; have hfz21_0 := blk_frozen BK648.out 0; have hfz21_1 := blk_frozen BK648.out 1; have hfz21_2 := blk_frozen BK648.out 2) | ((with_reducible refine gate_callee (f := 83) rfl ?_); refine goesL_ (some 11) rfl rfl Tryd.func83 (by kernel_rfl) rfl #[.slice A0_1 l0_1.length c0_1, .slice A1_1 l1_1.length c1_1] rfl (by (try simp only [List.map_toArray, List.map_cons, List.map_nil]); first | done | rfl | (simp only [List.length_drop, List.length_take]; rfl)) ?_; (with_reducible refine (caesuraref0_SameRows.calls k _ _ l0_1 _ _ l1_1 false _ ?side1 ?side2 ?side3 ?side4 A3.out).mono ?_); (case side1 => repeat (first | exact (Kd.C_below HR0_1.out HB.out) | (with_reducible refine Kd.C_alloc ?_ _) | (with_reducible refine Kd.C_drewN ?_ _) | (with_reducible refine Kd.C_drew ?_))); (case side2 => exact HC0_1.out); (case side3 => repeat (first | exact (Kd.C_below HR1_1.out HB.out) | (with_reducible refine Kd.C_alloc ?_ _) | (with_reducible refine Kd.C_drewN ?_ _) | (with_reducible refine Kd.C_drew ?_))); (case side4 => exact HC1_1.out); rintro e w' ⟨rfl, ⟨nd, rfl⟩⟩; refine ⟨_, rfl, ?_⟩) | ((with_reducible refine gate_callee (f := 83) rfl ?_); refine goesL_ (some 16) rfl rfl Tryd.func83 (by kernel_rfl) rfl #[.slice A0_2 l0_2.length c0_2, .slice A1_2 l1_2.length c1_2] rfl (by (try simp only [List.map_toArray, List.map_cons, List.map_nil]); first | done | rfl | (simp only [List.length_drop, List.length_take]; rfl)) ?_; (with_reducible refine (caesuraref0_SameRows.calls k _ _ l0_2 _ _ l1_2 t650 _ ?side1 ?side2 ?side3 ?side4 A4.out).mono ?_); (case side1 => repeat (first | exact (Kd.C_below HR0_2.out (by repeat (first | (with_reducible first | exact HB.out | apply below_alloc | apply pw_below_drewN | apply below_drew1 | refine below_set ?_ GE647.out | refine below_set ?_ GE648.out) | exact HB.out))) | (with_reducible refine Kd.C_alloc ?_ _) | (with_reducible refine Kd.C_drewN ?_ _) | (with_reducible refine Kd.C_drew ?_))); (case side2 => exact HC0_2.out); (case side3 => repeat (first | exact (Kd.C_below HR1_2.out (by repeat (first | (with_reducible first | exact HB.out | apply below_alloc | apply pw_below_drewN | apply below_drew1 | refine below_set ?_ GE647.out | refine below_set ?_ GE648.out) | exact HB.out))) | (with_reducible refine Kd.C_alloc ?_ _) | (with_reducible refine Kd.C_drewN ?_ _) | (with_reducible refine Kd.C_drew ?_))); (case side4 => exact HC1_2.out); rintro e w' ⟨rfl, ⟨nd, rfl⟩⟩; refine ⟨_, rfl, ?_⟩))
  go_ret
  exact ⟨by first | rfl | (simp [errW_none, errW_some] <;> rfl) | (simp [*, errW_none, errW_some] <;> rfl), by repeat (first | (with_reducible first | exact HB.out | apply below_alloc | apply pw_below_drewN | apply below_drew1 | refine below_set ?_ GE647.out | refine below_set ?_ GE648.out) | exact HB.out)⟩
end Go.Proofs.YtfonajakaimnoaaDoor.Lib
