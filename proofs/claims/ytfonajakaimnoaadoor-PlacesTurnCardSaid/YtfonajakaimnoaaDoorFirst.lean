/- caesuralaw11.first answers true. -/
import Derived.Test.YtfonajakaimnoaaDoorMatch2
import Derived.Test.YtfonajakaimnoaaDoorCheck
namespace Go.Proofs.YtfonajakaimnoaaDoor.C11
open Go.RowKit Go.Proofs.YtfonajakaimnoaaDoorW.PrintWords Go.Proofs.YtfonajakaimnoaaDoorW.PrintLast Go.Proofs.YtfonajakaimnoaaDoorW.PrintMore Go.Proofs.YtfonajakaimnoaaDoor.Lib Lent Go.Proofs.YtfonajakaimnoaaDoor.Fn Go.Shelf Go.Proofs.YtfonajakaimnoaaDoor.Stl
attribute [local go_sem] max2_int min2_int max_two min_two max_three min_three max_four min_four

theorem C_cells {W : World} {g : Nat} (l : List Int) (hl : l.length ≤ 9) (h : ∀ j x, l[j]? = some x → W.cell? ⟨g, j, none⟩ = some (.int .i64 x)) : Kd.C kI W (some ⟨g, 0, none⟩) l.length l :=
  ⟨rfl, by omega, fun _ => ⟨_, rfl, fun j p hj => ⟨[.int .i64 p], rfl, rfl, fun i u hu => by
    cases i with
    | zero =>
      simp only [List.getElem?_cons_zero, Option.some.injEq] at hu
      subst hu
      have := h j p hj
      have e : (Addr.add ⟨g, 0, none⟩ (j * kI.sz + 0)) = ⟨g, j, none⟩ := by
        rw [show j * kI.sz + 0 = j from Nat.mul_one _]
        simp [Addr.add]
        exact fun h => h.symm
      rw [e]; exact this
    | succ i => simp at hu⟩⟩⟩
theorem C_one {W : World} {g : Nat} {x : Int} (h : W.cell? ⟨g, 0, none⟩ = some (.int .i64 x)) : Kd.C kI W (some ⟨g, 0, none⟩) 1 [x] :=
  C_cells [x] (by simp) (fun j y hj => by
    cases j with
    | zero => simp at hj; subst hj; exact h
    | succ j => simp at hj)
theorem C_two {W : World} {g : Nat} {x y : Int} (h : W.cell? ⟨g, 0, none⟩ = some (.int .i64 x)) (h1 : W.cell? ⟨g, 1, none⟩ = some (.int .i64 y)) : Kd.C kI W (some ⟨g, 0, none⟩) 2 [x, y] :=
  C_cells [x, y] (by simp) (fun j z hj => by
    rcases j with _ | _ | j
    · simp at hj; subst hj; exact h
    · simp at hj; subst hj; exact h1
    · simp at hj)
theorem C_three {W : World} {g : Nat} {x y z : Int} (h : W.cell? ⟨g, 0, none⟩ = some (.int .i64 x)) (h1 : W.cell? ⟨g, 1, none⟩ = some (.int .i64 y)) (h2 : W.cell? ⟨g, 2, none⟩ = some (.int .i64 z)) : Kd.C kI W (some ⟨g, 0, none⟩) 3 [x, y, z] :=
  C_cells [x, y, z] (by simp) (fun j u hj => by
    rcases j with _ | _ | _ | j
    · simp at hj; subst hj; exact h
    · simp at hj; subst hj; exact h1
    · simp at hj; subst hj; exact h2
    · simp at hj)
theorem CL_two {W : World} {g : Nat} {A B : Option Addr} {x y : Int} (h : W.cell? ⟨g, 0, none⟩ = some (.slice A 1 1)) (h1 : W.cell? ⟨g, 1, none⟩ = some (.slice B 1 1)) (hA : Kd.C kI W A 1 [x]) (hB : Kd.C kI W B 1 [y]) : Kd.C kL W (some ⟨g, 0, none⟩) 2 [[x], [y]] :=
  ⟨rfl, by decide, fun _ => ⟨_, rfl, fun j p hj => by
    rcases j with _ | _ | j
    · simp at hj
      subst hj
      exact ⟨[.slice A 1 1], rfl, ⟨A, 1, rfl, Nat.le_refl _, hA⟩, fun i u hu => by
        cases i with
        | zero => simp at hu; subst hu; exact h
        | succ i => simp at hu⟩
    · simp at hj
      subst hj
      exact ⟨[.slice B 1 1], rfl, ⟨B, 1, rfl, Nat.le_refl _, hB⟩, fun i u hu => by
        cases i with
        | zero => simp at hu; subst hu; exact h1
        | succ i => simp at hu⟩
    · simp at hj⟩⟩

set_option maxHeartbeats 2000000 in
set_option maxRecDepth 10000 in
theorem first_calls (w : World) (eM eA : Value) (hM : w.cell? ⟨2, 0, none⟩ = some eM) (hA : w.cell? ⟨0, 0, none⟩ = some eA) :
    Calls Tryd.prog 35 #[] w fun e w' => e = .returned (.bool true) ∧ Below w.heap.size w w' := by
  have hu := Tryd.underlying42
  have HM := Aside0.mk hM
  have HA := Aside0.mk hA
  clear hM hA
  go_enter Tryd.func35, Tryd.ntmps35
  go_wp2_with fail
  refine (check_calls (some ⟨w.heap.size + 1 + 1, 0, none⟩) 2 [[1], [2]] (some ⟨w.heap.size + 1 + 1 + 1, 0, none⟩) 1 [0] (some ⟨w.heap.size + 1 + 1 + 1 + 1, 0, none⟩) 2 [0, 1] (some ⟨w.heap.size + 1 + 1 + 1 + 1 + 1 + 1 + 1, 0, none⟩) 2 [[1], [1]] false 3 eM eA _
    ⟨(CL_two (A := some ⟨w.heap.size, 0, none⟩) (B := some ⟨w.heap.size + 1, 0, none⟩) (by go_simp) (by go_simp) (C_one (by go_simp)) (C_one (by go_simp))), by decide⟩ ⟨C_one (by go_simp), by decide⟩ ⟨C_two (by go_simp) (by go_simp), by decide⟩ ⟨(CL_two (A := some ⟨w.heap.size + 1 + 1 + 1 + 1 + 1, 0, none⟩) (B := some ⟨w.heap.size + 1 + 1 + 1 + 1 + 1 + 1, 0, none⟩) (by go_simp) (by go_simp) (C_one (by go_simp)) (C_one (by go_simp))), by decide⟩
    (by decide) (by decide) (by decide) (by decide) (by repeat (first | exact HM.out | refine cell_alloc ?_ _)) (by repeat (first | exact HA.out | refine cell_alloc ?_ _))).mono ?_
  rintro e w1 ⟨rfl, hb⟩
  have G0 : Aside0 (Kd.C kL w1 (some ⟨w.heap.size + 1 + 1, 0, none⟩) 2 [[1], [2]]) := ⟨Kd.C_below (CL_two (A := some ⟨w.heap.size, 0, none⟩) (B := some ⟨w.heap.size + 1, 0, none⟩) (by go_simp) (by go_simp) (C_one (by go_simp)) (C_one (by go_simp))) hb⟩
  have G1 : Aside0 (Kd.C kI w1 (some ⟨w.heap.size + 1 + 1 + 1, 0, none⟩) 1 [0]) := ⟨Kd.C_below (C_one (by go_simp)) hb⟩
  have G2 : Aside0 (Kd.C kI w1 (some ⟨w.heap.size + 1 + 1 + 1 + 1, 0, none⟩) 2 [0, 1]) := ⟨Kd.C_below (C_two (by go_simp) (by go_simp)) hb⟩
  have G3 : Aside0 (Kd.C kL w1 (some ⟨w.heap.size + 1 + 1 + 1 + 1 + 1 + 1 + 1, 0, none⟩) 2 [[1], [1]]) := ⟨Kd.C_below (CL_two (A := some ⟨w.heap.size + 1 + 1 + 1 + 1 + 1, 0, none⟩) (B := some ⟨w.heap.size + 1 + 1 + 1 + 1 + 1 + 1, 0, none⟩) (by go_simp) (by go_simp) (C_one (by go_simp)) (C_one (by go_simp))) hb⟩
  have q0 : w1.cell? ⟨w.heap.size + 1 + 1 + 1 + 1 + 1 + 1 + 1 + 1, 0, none⟩ = some (.slice (some ⟨w.heap.size + 1 + 1, 0, none⟩) 2 2) := (hb.cell (p := ⟨w.heap.size + 1 + 1 + 1 + 1 + 1 + 1 + 1 + 1, 0, none⟩) (by simp)).trans (by go_simp)
  have q1 : w1.cell? ⟨w.heap.size + 1 + 1 + 1 + 1 + 1 + 1 + 1 + 1, 1, none⟩ = some (.slice (some ⟨w.heap.size + 1 + 1 + 1, 0, none⟩) 1 1) := (hb.cell (p := ⟨w.heap.size + 1 + 1 + 1 + 1 + 1 + 1 + 1 + 1, 1, none⟩) (by simp)).trans (by go_simp)
  have q2 : w1.cell? ⟨w.heap.size + 1 + 1 + 1 + 1 + 1 + 1 + 1 + 1, 2, none⟩ = some (.slice (some ⟨w.heap.size + 1 + 1 + 1 + 1, 0, none⟩) 2 2) := (hb.cell (p := ⟨w.heap.size + 1 + 1 + 1 + 1 + 1 + 1 + 1 + 1, 2, none⟩) (by simp)).trans (by go_simp)
  have q3 : w1.cell? ⟨w.heap.size + 1 + 1 + 1 + 1 + 1 + 1 + 1 + 1, 3, none⟩ = some (.slice (some ⟨w.heap.size + 1 + 1 + 1 + 1 + 1 + 1 + 1, 0, none⟩) 2 2) := (hb.cell (p := ⟨w.heap.size + 1 + 1 + 1 + 1 + 1 + 1 + 1 + 1, 3, none⟩) (by simp)).trans (by go_simp)
  have q4 : w1.cell? ⟨w.heap.size + 1 + 1 + 1 + 1 + 1 + 1 + 1 + 1, 4, none⟩ = some (.bool false) := (hb.cell (p := ⟨w.heap.size + 1 + 1 + 1 + 1 + 1 + 1 + 1 + 1, 4, none⟩) (by simp)).trans (by go_simp)
  have HB : Aside0 (Below w.heap.size w w1) := ⟨below_step (by repeat (first | exact Below.refl _ _ | apply below_alloc)) hb⟩
  have hz : w.heap.size + 1 + 1 + 1 + 1 + 1 + 1 + 1 + 1 < w1.heap.size := by have := hb.size; simp at this; omega
  clear hb
  rw [show errMA eM eA (checkC [[1], [2]] [0] [0, 1] [[1], [1]] 3) = .nilIface from by rw [show checkC [[1], [2]] [0] [0, 1] [[1], [1]] 3 = 0 from by decide]; rfl]
  go_wp2_with fail
  refine (match_calls (some ⟨w.heap.size + 1 + 1, 0, none⟩) 2 [[1], [2]] (some ⟨w.heap.size + 1 + 1 + 1, 0, none⟩) 1 [0] (some ⟨w.heap.size + 1 + 1 + 1 + 1, 0, none⟩) 2 [0, 1] (some ⟨w.heap.size + 1 + 1 + 1 + 1 + 1 + 1 + 1, 0, none⟩) 2 [[1], [1]] false (some ⟨w1.heap.size, 0, none⟩) 3 [1, 2, 2] _ ⟨Kd.C_alloc G0.out _, by decide⟩ ⟨Kd.C_alloc G1.out _, by decide⟩ ⟨Kd.C_alloc G2.out _, by decide⟩ ⟨Kd.C_alloc G3.out _, by decide⟩ (C_three (by go_simp) (by go_simp) (by go_simp)) (by decide) (by decide)).mono ?_
  rintro e w2 ⟨rfl, hb⟩
  rw [show matchB [[1], [2]] [0] [0, 1] [[1], [1]] false [1, 2, 2] = true from by decide]
  replace G0 := Aside0.mk (Kd.C_below (Kd.C_alloc G0.out _) hb)
  replace G1 := Aside0.mk (Kd.C_below (Kd.C_alloc G1.out _) hb)
  replace G2 := Aside0.mk (Kd.C_below (Kd.C_alloc G2.out _) hb)
  replace G3 := Aside0.mk (Kd.C_below (Kd.C_alloc G3.out _) hb)
  replace q0 : w2.cell? ⟨w.heap.size + 1 + 1 + 1 + 1 + 1 + 1 + 1 + 1, 0, none⟩ = some (.slice (some ⟨w.heap.size + 1 + 1, 0, none⟩) 2 2) := (hb.cell (p := ⟨w.heap.size + 1 + 1 + 1 + 1 + 1 + 1 + 1 + 1, 0, none⟩) (by have := hz; simp; omega)).trans (cell_alloc q0 _)
  replace q1 : w2.cell? ⟨w.heap.size + 1 + 1 + 1 + 1 + 1 + 1 + 1 + 1, 1, none⟩ = some (.slice (some ⟨w.heap.size + 1 + 1 + 1, 0, none⟩) 1 1) := (hb.cell (p := ⟨w.heap.size + 1 + 1 + 1 + 1 + 1 + 1 + 1 + 1, 1, none⟩) (by have := hz; simp; omega)).trans (cell_alloc q1 _)
  replace q2 : w2.cell? ⟨w.heap.size + 1 + 1 + 1 + 1 + 1 + 1 + 1 + 1, 2, none⟩ = some (.slice (some ⟨w.heap.size + 1 + 1 + 1 + 1, 0, none⟩) 2 2) := (hb.cell (p := ⟨w.heap.size + 1 + 1 + 1 + 1 + 1 + 1 + 1 + 1, 2, none⟩) (by have := hz; simp; omega)).trans (cell_alloc q2 _)
  replace q3 : w2.cell? ⟨w.heap.size + 1 + 1 + 1 + 1 + 1 + 1 + 1 + 1, 3, none⟩ = some (.slice (some ⟨w.heap.size + 1 + 1 + 1 + 1 + 1 + 1 + 1, 0, none⟩) 2 2) := (hb.cell (p := ⟨w.heap.size + 1 + 1 + 1 + 1 + 1 + 1 + 1 + 1, 3, none⟩) (by have := hz; simp; omega)).trans (cell_alloc q3 _)
  replace q4 : w2.cell? ⟨w.heap.size + 1 + 1 + 1 + 1 + 1 + 1 + 1 + 1, 4, none⟩ = some (.bool false) := (hb.cell (p := ⟨w.heap.size + 1 + 1 + 1 + 1 + 1 + 1 + 1 + 1, 4, none⟩) (by have := hz; simp; omega)).trans (cell_alloc q4 _)
  replace HB : Aside0 (Below w.heap.size w w2) := ⟨below_step (below_alloc HB.out _) hb⟩
  replace hz : w.heap.size + 1 + 1 + 1 + 1 + 1 + 1 + 1 + 1 < w2.heap.size := by have := hb.size; simp at this; omega
  clear hb
  go_wp2_with fail
  refine (match_calls (some ⟨w.heap.size + 1 + 1, 0, none⟩) 2 [[1], [2]] (some ⟨w.heap.size + 1 + 1 + 1, 0, none⟩) 1 [0] (some ⟨w.heap.size + 1 + 1 + 1 + 1, 0, none⟩) 2 [0, 1] (some ⟨w.heap.size + 1 + 1 + 1 + 1 + 1 + 1 + 1, 0, none⟩) 2 [[1], [1]] false (some ⟨w2.heap.size, 0, none⟩) 1 [1] _ ⟨Kd.C_alloc G0.out _, by decide⟩ ⟨Kd.C_alloc G1.out _, by decide⟩ ⟨Kd.C_alloc G2.out _, by decide⟩ ⟨Kd.C_alloc G3.out _, by decide⟩ (C_one (by go_simp)) (by decide) (by decide)).mono ?_
  rintro e w3 ⟨rfl, hb⟩
  rw [show matchB [[1], [2]] [0] [0, 1] [[1], [1]] false [1] = true from by decide]
  replace G0 := Aside0.mk (Kd.C_below (Kd.C_alloc G0.out _) hb)
  replace G1 := Aside0.mk (Kd.C_below (Kd.C_alloc G1.out _) hb)
  replace G2 := Aside0.mk (Kd.C_below (Kd.C_alloc G2.out _) hb)
  replace G3 := Aside0.mk (Kd.C_below (Kd.C_alloc G3.out _) hb)
  replace q0 : w3.cell? ⟨w.heap.size + 1 + 1 + 1 + 1 + 1 + 1 + 1 + 1, 0, none⟩ = some (.slice (some ⟨w.heap.size + 1 + 1, 0, none⟩) 2 2) := (hb.cell (p := ⟨w.heap.size + 1 + 1 + 1 + 1 + 1 + 1 + 1 + 1, 0, none⟩) (by have := hz; simp; omega)).trans (cell_alloc q0 _)
  replace q1 : w3.cell? ⟨w.heap.size + 1 + 1 + 1 + 1 + 1 + 1 + 1 + 1, 1, none⟩ = some (.slice (some ⟨w.heap.size + 1 + 1 + 1, 0, none⟩) 1 1) := (hb.cell (p := ⟨w.heap.size + 1 + 1 + 1 + 1 + 1 + 1 + 1 + 1, 1, none⟩) (by have := hz; simp; omega)).trans (cell_alloc q1 _)
  replace q2 : w3.cell? ⟨w.heap.size + 1 + 1 + 1 + 1 + 1 + 1 + 1 + 1, 2, none⟩ = some (.slice (some ⟨w.heap.size + 1 + 1 + 1 + 1, 0, none⟩) 2 2) := (hb.cell (p := ⟨w.heap.size + 1 + 1 + 1 + 1 + 1 + 1 + 1 + 1, 2, none⟩) (by have := hz; simp; omega)).trans (cell_alloc q2 _)
  replace q3 : w3.cell? ⟨w.heap.size + 1 + 1 + 1 + 1 + 1 + 1 + 1 + 1, 3, none⟩ = some (.slice (some ⟨w.heap.size + 1 + 1 + 1 + 1 + 1 + 1 + 1, 0, none⟩) 2 2) := (hb.cell (p := ⟨w.heap.size + 1 + 1 + 1 + 1 + 1 + 1 + 1 + 1, 3, none⟩) (by have := hz; simp; omega)).trans (cell_alloc q3 _)
  replace q4 : w3.cell? ⟨w.heap.size + 1 + 1 + 1 + 1 + 1 + 1 + 1 + 1, 4, none⟩ = some (.bool false) := (hb.cell (p := ⟨w.heap.size + 1 + 1 + 1 + 1 + 1 + 1 + 1 + 1, 4, none⟩) (by have := hz; simp; omega)).trans (cell_alloc q4 _)
  replace HB : Aside0 (Below w.heap.size w w3) := ⟨below_step (below_alloc HB.out _) hb⟩
  replace hz : w.heap.size + 1 + 1 + 1 + 1 + 1 + 1 + 1 + 1 < w3.heap.size := by have := hb.size; simp at this; omega
  clear hb
  go_wp2_with fail
  refine (match_calls (some ⟨w.heap.size + 1 + 1, 0, none⟩) 2 [[1], [2]] (some ⟨w.heap.size + 1 + 1 + 1, 0, none⟩) 1 [0] (some ⟨w.heap.size + 1 + 1 + 1 + 1, 0, none⟩) 2 [0, 1] (some ⟨w.heap.size + 1 + 1 + 1 + 1 + 1 + 1 + 1, 0, none⟩) 2 [[1], [1]] false (some ⟨w3.heap.size, 0, none⟩) 1 [2] _ ⟨Kd.C_alloc G0.out _, by decide⟩ ⟨Kd.C_alloc G1.out _, by decide⟩ ⟨Kd.C_alloc G2.out _, by decide⟩ ⟨Kd.C_alloc G3.out _, by decide⟩ (C_one (by go_simp)) (by decide) (by decide)).mono ?_
  rintro e w4 ⟨rfl, hb⟩
  rw [show matchB [[1], [2]] [0] [0, 1] [[1], [1]] false [2] = false from by decide]
  replace G0 := Aside0.mk (Kd.C_below (Kd.C_alloc G0.out _) hb)
  replace G1 := Aside0.mk (Kd.C_below (Kd.C_alloc G1.out _) hb)
  replace G2 := Aside0.mk (Kd.C_below (Kd.C_alloc G2.out _) hb)
  replace G3 := Aside0.mk (Kd.C_below (Kd.C_alloc G3.out _) hb)
  replace q0 : w4.cell? ⟨w.heap.size + 1 + 1 + 1 + 1 + 1 + 1 + 1 + 1, 0, none⟩ = some (.slice (some ⟨w.heap.size + 1 + 1, 0, none⟩) 2 2) := (hb.cell (p := ⟨w.heap.size + 1 + 1 + 1 + 1 + 1 + 1 + 1 + 1, 0, none⟩) (by have := hz; simp; omega)).trans (cell_alloc q0 _)
  replace q1 : w4.cell? ⟨w.heap.size + 1 + 1 + 1 + 1 + 1 + 1 + 1 + 1, 1, none⟩ = some (.slice (some ⟨w.heap.size + 1 + 1 + 1, 0, none⟩) 1 1) := (hb.cell (p := ⟨w.heap.size + 1 + 1 + 1 + 1 + 1 + 1 + 1 + 1, 1, none⟩) (by have := hz; simp; omega)).trans (cell_alloc q1 _)
  replace q2 : w4.cell? ⟨w.heap.size + 1 + 1 + 1 + 1 + 1 + 1 + 1 + 1, 2, none⟩ = some (.slice (some ⟨w.heap.size + 1 + 1 + 1 + 1, 0, none⟩) 2 2) := (hb.cell (p := ⟨w.heap.size + 1 + 1 + 1 + 1 + 1 + 1 + 1 + 1, 2, none⟩) (by have := hz; simp; omega)).trans (cell_alloc q2 _)
  replace q3 : w4.cell? ⟨w.heap.size + 1 + 1 + 1 + 1 + 1 + 1 + 1 + 1, 3, none⟩ = some (.slice (some ⟨w.heap.size + 1 + 1 + 1 + 1 + 1 + 1 + 1, 0, none⟩) 2 2) := (hb.cell (p := ⟨w.heap.size + 1 + 1 + 1 + 1 + 1 + 1 + 1 + 1, 3, none⟩) (by have := hz; simp; omega)).trans (cell_alloc q3 _)
  replace q4 : w4.cell? ⟨w.heap.size + 1 + 1 + 1 + 1 + 1 + 1 + 1 + 1, 4, none⟩ = some (.bool false) := (hb.cell (p := ⟨w.heap.size + 1 + 1 + 1 + 1 + 1 + 1 + 1 + 1, 4, none⟩) (by have := hz; simp; omega)).trans (cell_alloc q4 _)
  replace HB : Aside0 (Below w.heap.size w w4) := ⟨below_step (below_alloc HB.out _) hb⟩
  replace hz : w.heap.size + 1 + 1 + 1 + 1 + 1 + 1 + 1 + 1 < w4.heap.size := by have := hb.size; simp at this; omega
  clear hb
  go_wp2_with fail
  refine (match_calls (some ⟨w.heap.size + 1 + 1, 0, none⟩) 2 [[1], [2]] (some ⟨w.heap.size + 1 + 1 + 1, 0, none⟩) 1 [0] (some ⟨w.heap.size + 1 + 1 + 1 + 1, 0, none⟩) 2 [0, 1] (some ⟨w.heap.size + 1 + 1 + 1 + 1 + 1 + 1 + 1, 0, none⟩) 2 [[1], [1]] false none 0 [] _ ⟨G0.out, by decide⟩ ⟨G1.out, by decide⟩ ⟨G2.out, by decide⟩ ⟨G3.out, by decide⟩ ⟨rfl, by decide, fun h => absurd h (by simp)⟩ (by decide) (by decide)).mono ?_
  rintro e w5 ⟨rfl, hb⟩
  rw [show matchB [[1], [2]] [0] [0, 1] [[1], [1]] false [] = false from by decide]
  replace HB : Aside0 (Below w.heap.size w w5) := ⟨below_step HB.out hb⟩
  clear hb
  go_wp2_with fail
  go_ret
  exact ⟨rfl, HB.out⟩
end Go.Proofs.YtfonajakaimnoaaDoor.C11
