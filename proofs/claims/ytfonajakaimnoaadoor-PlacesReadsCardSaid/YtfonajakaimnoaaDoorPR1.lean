/- Part of a proof: texts of one seat, one behind the other. -/
import Derived.Test.YtfonajakaimnoaaDoorPR0

/- caesuraref11.Match: its walk (a printed text with two addresses named anew). -/
namespace Go.Proofs.YtfonajakaimnoaaDoor.Lib
open Go.RowKit Go.Proofs.YtfonajakaimnoaaDoorW.PrintWords Go.Proofs.YtfonajakaimnoaaDoorW.PrintLast Go.Proofs.YtfonajakaimnoaaDoorW.PrintMore
attribute [local go_sem] max2_int min2_int max_two min_two max_three min_three max_four min_four   -- for this text's walks alone
set_option linter.unusedVariables false
set_option linter.unusedSimpArgs false

/-! ### caesuraref11_Match: function 30 -/
mutual
def caesuraref11_Match.l0 : Nat → List Int → List Bool → Int → List (List Int) → List Int → List Int → List (List Int) → Bool → Option (Bool)
 | 0, _, _, _, _, _, _, _, _ => none
 | k + 1, x1, x6, x7, x363000, x363001, x363002, x363003, x363004 => if x7 < (x363000.length : Int) then ((caesuraref11_has.f k x363001 x7).bind fun t364 => (if t364 = true then (if 0 ≤ x7 then (if 0 < (x1.length : Int) then ((caesuraref11_has.f k (rd_L1 x363000 x7) (rd x1 0)).bind fun t367 => (if x6.length < 140737488355328 then (caesuraref11_Match.l0 k x1 (x6 ++ [t367]) (wrap64 (x7 + 1)) x363000 x363001 x363002 x363003 x363004) else (none))) else (none)) else (none)) else (if x6.length < 140737488355328 then (caesuraref11_Match.l0 k x1 (x6 ++ [false]) (wrap64 (x7 + 1)) x363000 x363001 x363002 x363003 x363004) else (none)))) else (caesuraref11_Match.l1 k x1 x6 1 x363000 x363001 x363002 x363003 x363004)
def caesuraref11_Match.l1 : Nat → List Int → List Bool → Int → List (List Int) → List Int → List Int → List (List Int) → Bool → Option (Bool)
 | 0, _, _, _, _, _, _, _, _ => none
 | k + 1, x1, x6, x8, x363000, x363001, x363002, x363003, x363004 => if x8 < (x1.length : Int) then (caesuraref11_Match.l2 k x1 x6 x8 ([] : List Bool) 0 x363000 x363001 x363002 x363003 x363004) else (caesuraref11_Match.l5 k x6 0 x363000 x363001 x363002 x363003 x363004)
def caesuraref11_Match.l2 : Nat → List Int → List Bool → Int → List Bool → Int → List (List Int) → List Int → List Int → List (List Int) → Bool → Option (Bool)
 | 0, _, _, _, _, _, _, _, _, _, _ => none
 | k + 1, x1, x6, x8, x9, x10, x363000, x363001, x363002, x363003, x363004 => if x10 < (x363000.length : Int) then (if x9.length < 140737488355328 then (caesuraref11_Match.l2 k x1 x6 x8 (x9 ++ [false]) (wrap64 (x10 + 1)) x363000 x363001 x363002 x363003 x363004) else (none)) else (caesuraref11_Match.l3 k x1 x6 x8 x9 0 x363000 x363001 x363002 x363003 x363004)
def caesuraref11_Match.l3 : Nat → List Int → List Bool → Int → List Bool → Int → List (List Int) → List Int → List Int → List (List Int) → Bool → Option (Bool)
 | 0, _, _, _, _, _, _, _, _, _, _ => none
 | k + 1, x1, x6, x8, x9, x11, x363000, x363001, x363002, x363003, x363004 => if x11 < (x363000.length : Int) then (caesuraref11_Match.l4 k x1 x6 x8 x9 x11 0 x363000 x363001 x363002 x363003 x363004) else (caesuraref11_Match.l1 k x1 x9 (wrap64 (x8 + 1)) x363000 x363001 x363002 x363003 x363004)
def caesuraref11_Match.l4 : Nat → List Int → List Bool → Int → List Bool → Int → Int → List (List Int) → List Int → List Int → List (List Int) → Bool → Option (Bool)
 | 0, _, _, _, _, _, _, _, _, _, _, _ => none
 | k + 1, x1, x6, x8, x9, x11, x12, x363000, x363001, x363002, x363003, x363004 => if 0 ≤ x11 then (if x11 < (x6.length : Int) then (if rdOf false x6 x11 = true then (if x11 < (x363003.length : Int) then (if x12 < ((rd_L1 x363003 x11).length : Int) then (if 0 ≤ x12 then (if 0 ≤ (rd (rd_L1 x363003 x11) x12) then (if (rd (rd_L1 x363003 x11) x12) < (x9.length : Int) then (if rdOf false x9 (rd (rd_L1 x363003 x11) x12) = true then (caesuraref11_Match.l4 k x1 x6 x8 (x9.set ((rd (rd_L1 x363003 x11) x12) : Int).toNat true) x11 (wrap64 (x12 + 1)) x363000 x363001 x363002 x363003 x363004) else (if (rd (rd_L1 x363003 x11) x12) < (x363000.length : Int) then (if 0 ≤ x8 then (if x8 < (x1.length : Int) then ((caesuraref11_has.f k (rd_L1 x363000 (rd (rd_L1 x363003 x11) x12)) (rd x1 x8)).bind fun t385 => (caesuraref11_Match.l4 k x1 x6 x8 (x9.set ((rd (rd_L1 x363003 x11) x12) : Int).toNat t385) x11 (wrap64 (x12 + 1)) x363000 x363001 x363002 x363003 x363004)) else (none)) else (none)) else (none))) else (none)) else (none)) else (none)) else (caesuraref11_Match.l3 k x1 x6 x8 x9 (wrap64 (x11 + 1)) x363000 x363001 x363002 x363003 x363004)) else (none)) else (caesuraref11_Match.l3 k x1 x6 x8 x9 (wrap64 (x11 + 1)) x363000 x363001 x363002 x363003 x363004)) else (none)) else (none)
def caesuraref11_Match.l5 : Nat → List Bool → Int → List (List Int) → List Int → List Int → List (List Int) → Bool → Option (Bool)
 | 0, _, _, _, _, _, _, _ => none
 | k + 1, x6, x14, x363000, x363001, x363002, x363003, x363004 => if x14 < (x363002.length : Int) then (if 0 ≤ x14 then (if 0 ≤ (rd x363002 x14) then (if (rd x363002 x14) < (x6.length : Int) then (if rdOf false x6 (rd x363002 x14) = true then (some true) else (caesuraref11_Match.l5 k x6 (wrap64 (x14 + 1)) x363000 x363001 x363002 x363003 x363004)) else (none)) else (none)) else (none)) else (some false)
end
def caesuraref11_Match.f (k : Nat) (l0_0 : List (List Int)) (l0_1 : List Int) (l0_2 : List Int) (l0_3 : List (List Int)) (a0_4 : Bool) (l1 : List Int) : Option (Bool) := (caesuraref11_sound.f k l0_0 l0_1 l0_2 l0_3 a0_4).bind fun t363 => (if t363 = true then (if (l1.length : Int) = 0 then (some a0_4) else (caesuraref11_Match.l0 k l1 ([] : List Bool) 0 l0_0 l0_1 l0_2 l0_3 a0_4)) else (some false))
theorem caesuraref11_Match.mono_l : ∀ k, (∀ y0 y1 y2 y3 y4 y5 y6 y7, LeO (caesuraref11_Match.l0 k y0 y1 y2 y3 y4 y5 y6 y7) (caesuraref11_Match.l0 (k + 1) y0 y1 y2 y3 y4 y5 y6 y7)) ∧ (∀ y0 y1 y2 y3 y4 y5 y6 y7, LeO (caesuraref11_Match.l1 k y0 y1 y2 y3 y4 y5 y6 y7) (caesuraref11_Match.l1 (k + 1) y0 y1 y2 y3 y4 y5 y6 y7)) ∧ (∀ y0 y1 y2 y3 y4 y5 y6 y7 y8 y9, LeO (caesuraref11_Match.l2 k y0 y1 y2 y3 y4 y5 y6 y7 y8 y9) (caesuraref11_Match.l2 (k + 1) y0 y1 y2 y3 y4 y5 y6 y7 y8 y9)) ∧ (∀ y0 y1 y2 y3 y4 y5 y6 y7 y8 y9, LeO (caesuraref11_Match.l3 k y0 y1 y2 y3 y4 y5 y6 y7 y8 y9) (caesuraref11_Match.l3 (k + 1) y0 y1 y2 y3 y4 y5 y6 y7 y8 y9)) ∧ (∀ y0 y1 y2 y3 y4 y5 y6 y7 y8 y9 y10, LeO (caesuraref11_Match.l4 k y0 y1 y2 y3 y4 y5 y6 y7 y8 y9 y10) (caesuraref11_Match.l4 (k + 1) y0 y1 y2 y3 y4 y5 y6 y7 y8 y9 y10)) ∧ (∀ y0 y1 y2 y3 y4 y5 y6, LeO (caesuraref11_Match.l5 k y0 y1 y2 y3 y4 y5 y6) (caesuraref11_Match.l5 (k + 1) y0 y1 y2 y3 y4 y5 y6))
 | 0 => ⟨fun _ _ _ _ _ _ _ _ r h => by simp [caesuraref11_Match.l0] at h, fun _ _ _ _ _ _ _ _ r h => by simp [caesuraref11_Match.l1] at h, fun _ _ _ _ _ _ _ _ _ _ r h => by simp [caesuraref11_Match.l2] at h, fun _ _ _ _ _ _ _ _ _ _ r h => by simp [caesuraref11_Match.l3] at h, fun _ _ _ _ _ _ _ _ _ _ _ r h => by simp [caesuraref11_Match.l4] at h, fun _ _ _ _ _ _ _ r h => by simp [caesuraref11_Match.l5] at h⟩
 | k + 1 => by
  obtain ⟨ih0, ih1, ih2, ih3, ih4, ih5⟩ := caesuraref11_Match.mono_l k
  refine ⟨?_, ?_, ?_, ?_, ?_, ?_⟩
  ·intro y0 y1 y2 y3 y4 y5 y6 y7
   unfold caesuraref11_Match.l0
   repeat' first
   | (with_reducible exact ih0 _ _ _ _ _ _ _ _)
   | (with_reducible exact ih1 _ _ _ _ _ _ _ _)
   | (with_reducible exact ih2 _ _ _ _ _ _ _ _ _ _)
   | (with_reducible exact ih3 _ _ _ _ _ _ _ _ _ _)
   | (with_reducible exact ih4 _ _ _ _ _ _ _ _ _ _ _)
   | (with_reducible exact ih5 _ _ _ _ _ _ _)
   | (with_reducible exact caesuraref11_has.mono _ _ _)
   | (with_reducible exact caesuraref11_sound.mono _ _ _ _ _ _)
   | (with_reducible exact LeO.refl _)
   | (with_reducible exact LeO.none _)
   | (with_reducible refine LeO.ite ?_ ?_)
   | (with_reducible refine LeO.bind ?_ (fun _ => ?_))
   | exact ih0 _ _ _ _ _ _ _ _
   | exact ih1 _ _ _ _ _ _ _ _
   | exact ih2 _ _ _ _ _ _ _ _ _ _
   | exact ih3 _ _ _ _ _ _ _ _ _ _
   | exact ih4 _ _ _ _ _ _ _ _ _ _ _
   | exact ih5 _ _ _ _ _ _ _
   | exact caesuraref11_has.mono _ _ _
   | exact caesuraref11_sound.mono _ _ _ _ _ _
   | exact LeO.none _
   | refine LeO.ite ?_ ?_
   | refine LeO.bind ?_ (fun _ => ?_)
  ·intro y0 y1 y2 y3 y4 y5 y6 y7
   unfold caesuraref11_Match.l1
   repeat' first
   | (with_reducible exact ih0 _ _ _ _ _ _ _ _)
   | (with_reducible exact ih1 _ _ _ _ _ _ _ _)
   | (with_reducible exact ih2 _ _ _ _ _ _ _ _ _ _)
   | (with_reducible exact ih3 _ _ _ _ _ _ _ _ _ _)
   | (with_reducible exact ih4 _ _ _ _ _ _ _ _ _ _ _)
   | (with_reducible exact ih5 _ _ _ _ _ _ _)
   | (with_reducible exact caesuraref11_has.mono _ _ _)
   | (with_reducible exact caesuraref11_sound.mono _ _ _ _ _ _)
   | (with_reducible exact LeO.refl _)
   | (with_reducible exact LeO.none _)
   | (with_reducible refine LeO.ite ?_ ?_)
   | (with_reducible refine LeO.bind ?_ (fun _ => ?_))
   | exact ih0 _ _ _ _ _ _ _ _
   | exact ih1 _ _ _ _ _ _ _ _
   | exact ih2 _ _ _ _ _ _ _ _ _ _
   | exact ih3 _ _ _ _ _ _ _ _ _ _
   | exact ih4 _ _ _ _ _ _ _ _ _ _ _
   | exact ih5 _ _ _ _ _ _ _
   | exact caesuraref11_has.mono _ _ _
   | exact caesuraref11_sound.mono _ _ _ _ _ _
   | exact LeO.none _
   | refine LeO.ite ?_ ?_
   | refine LeO.bind ?_ (fun _ => ?_)
  ·intro y0 y1 y2 y3 y4 y5 y6 y7 y8 y9
   unfold caesuraref11_Match.l2
   repeat' first
   | (with_reducible exact ih0 _ _ _ _ _ _ _ _)
   | (with_reducible exact ih1 _ _ _ _ _ _ _ _)
   | (with_reducible exact ih2 _ _ _ _ _ _ _ _ _ _)
   | (with_reducible exact ih3 _ _ _ _ _ _ _ _ _ _)
   | (with_reducible exact ih4 _ _ _ _ _ _ _ _ _ _ _)
   | (with_reducible exact ih5 _ _ _ _ _ _ _)
   | (with_reducible exact caesuraref11_has.mono _ _ _)
   | (with_reducible exact caesuraref11_sound.mono _ _ _ _ _ _)
   | (with_reducible exact LeO.refl _)
   | (with_reducible exact LeO.none _)
   | (with_reducible refine LeO.ite ?_ ?_)
   | (with_reducible refine LeO.bind ?_ (fun _ => ?_))
   | exact ih0 _ _ _ _ _ _ _ _
   | exact ih1 _ _ _ _ _ _ _ _
   | exact ih2 _ _ _ _ _ _ _ _ _ _
   | exact ih3 _ _ _ _ _ _ _ _ _ _
   | exact ih4 _ _ _ _ _ _ _ _ _ _ _
   | exact ih5 _ _ _ _ _ _ _
   | exact caesuraref11_has.mono _ _ _
   | exact caesuraref11_sound.mono _ _ _ _ _ _
   | exact LeO.none _
   | refine LeO.ite ?_ ?_
   | refine LeO.bind ?_ (fun _ => ?_)
  ·intro y0 y1 y2 y3 y4 y5 y6 y7 y8 y9
   unfold caesuraref11_Match.l3
   repeat' first
   | (with_reducible exact ih0 _ _ _ _ _ _ _ _)
   | (with_reducible exact ih1 _ _ _ _ _ _ _ _)
   | (with_reducible exact ih2 _ _ _ _ _ _ _ _ _ _)
   | (with_reducible exact ih3 _ _ _ _ _ _ _ _ _ _)
   | (with_reducible exact ih4 _ _ _ _ _ _ _ _ _ _ _)
   | (with_reducible exact ih5 _ _ _ _ _ _ _)
   | (with_reducible exact caesuraref11_has.mono _ _ _)
   | (with_reducible exact caesuraref11_sound.mono _ _ _ _ _ _)
   | (with_reducible exact LeO.refl _)
   | (with_reducible exact LeO.none _)
   | (with_reducible refine LeO.ite ?_ ?_)
   | (with_reducible refine LeO.bind ?_ (fun _ => ?_))
   | exact ih0 _ _ _ _ _ _ _ _
   | exact ih1 _ _ _ _ _ _ _ _
   | exact ih2 _ _ _ _ _ _ _ _ _ _
   | exact ih3 _ _ _ _ _ _ _ _ _ _
   | exact ih4 _ _ _ _ _ _ _ _ _ _ _
   | exact ih5 _ _ _ _ _ _ _
   | exact caesuraref11_has.mono _ _ _
   | exact caesuraref11_sound.mono _ _ _ _ _ _
   | exact LeO.none _
   | refine LeO.ite ?_ ?_
   | refine LeO.bind ?_ (fun _ => ?_)
  ·intro y0 y1 y2 y3 y4 y5 y6 y7 y8 y9 y10
   unfold caesuraref11_Match.l4
   repeat' first
   | (with_reducible exact ih0 _ _ _ _ _ _ _ _)
   | (with_reducible exact ih1 _ _ _ _ _ _ _ _)
   | (with_reducible exact ih2 _ _ _ _ _ _ _ _ _ _)
   | (with_reducible exact ih3 _ _ _ _ _ _ _ _ _ _)
   | (with_reducible exact ih4 _ _ _ _ _ _ _ _ _ _ _)
   | (with_reducible exact ih5 _ _ _ _ _ _ _)
   | (with_reducible exact caesuraref11_has.mono _ _ _)
   | (with_reducible exact caesuraref11_sound.mono _ _ _ _ _ _)
   | (with_reducible exact LeO.refl _)
   | (with_reducible exact LeO.none _)
   | (with_reducible refine LeO.ite ?_ ?_)
   | (with_reducible refine LeO.bind ?_ (fun _ => ?_))
   | exact ih0 _ _ _ _ _ _ _ _
   | exact ih1 _ _ _ _ _ _ _ _
   | exact ih2 _ _ _ _ _ _ _ _ _ _
   | exact ih3 _ _ _ _ _ _ _ _ _ _
   | exact ih4 _ _ _ _ _ _ _ _ _ _ _
   | exact ih5 _ _ _ _ _ _ _
   | exact caesuraref11_has.mono _ _ _
   | exact caesuraref11_sound.mono _ _ _ _ _ _
   | exact LeO.none _
   | refine LeO.ite ?_ ?_
   | refine LeO.bind ?_ (fun _ => ?_)
  ·intro y0 y1 y2 y3 y4 y5 y6
   unfold caesuraref11_Match.l5
   repeat' first
   | (with_reducible exact ih0 _ _ _ _ _ _ _ _)
   | (with_reducible exact ih1 _ _ _ _ _ _ _ _)
   | (with_reducible exact ih2 _ _ _ _ _ _ _ _ _ _)
   | (with_reducible exact ih3 _ _ _ _ _ _ _ _ _ _)
   | (with_reducible exact ih4 _ _ _ _ _ _ _ _ _ _ _)
   | (with_reducible exact ih5 _ _ _ _ _ _ _)
   | (with_reducible exact caesuraref11_has.mono _ _ _)
   | (with_reducible exact caesuraref11_sound.mono _ _ _ _ _ _)
   | (with_reducible exact LeO.refl _)
   | (with_reducible exact LeO.none _)
   | (with_reducible refine LeO.ite ?_ ?_)
   | (with_reducible refine LeO.bind ?_ (fun _ => ?_))
   | exact ih0 _ _ _ _ _ _ _ _
   | exact ih1 _ _ _ _ _ _ _ _
   | exact ih2 _ _ _ _ _ _ _ _ _ _
   | exact ih3 _ _ _ _ _ _ _ _ _ _
   | exact ih4 _ _ _ _ _ _ _ _ _ _ _
   | exact ih5 _ _ _ _ _ _ _
   | exact caesuraref11_has.mono _ _ _
   | exact caesuraref11_sound.mono _ _ _ _ _ _
   | exact LeO.none _
   | refine LeO.ite ?_ ?_
   | refine LeO.bind ?_ (fun _ => ?_)
theorem caesuraref11_Match.mono : ∀ a0 a1 a2 a3 a4 a5 k, LeO (caesuraref11_Match.f k a0 a1 a2 a3 a4 a5) (caesuraref11_Match.f (k + 1) a0 a1 a2 a3 a4 a5) := by
 intro a0 a1 a2 a3 a4 a5 k
 obtain ⟨ih0, ih1, ih2, ih3, ih4, ih5⟩ := caesuraref11_Match.mono_l k
 unfold caesuraref11_Match.f
 repeat' first
   | (with_reducible exact ih0 _ _ _ _ _ _ _ _)
   | (with_reducible exact ih1 _ _ _ _ _ _ _ _)
   | (with_reducible exact ih2 _ _ _ _ _ _ _ _ _ _)
   | (with_reducible exact ih3 _ _ _ _ _ _ _ _ _ _)
   | (with_reducible exact ih4 _ _ _ _ _ _ _ _ _ _ _)
   | (with_reducible exact ih5 _ _ _ _ _ _ _)
   | (with_reducible exact caesuraref11_has.mono _ _ _)
   | (with_reducible exact caesuraref11_sound.mono _ _ _ _ _ _)
   | (with_reducible exact LeO.refl _)
   | (with_reducible exact LeO.none _)
   | (with_reducible refine LeO.ite ?_ ?_)
   | (with_reducible refine LeO.bind ?_ (fun _ => ?_))
   | exact ih0 _ _ _ _ _ _ _ _
   | exact ih1 _ _ _ _ _ _ _ _
   | exact ih2 _ _ _ _ _ _ _ _ _ _
   | exact ih3 _ _ _ _ _ _ _ _ _ _
   | exact ih4 _ _ _ _ _ _ _ _ _ _ _
   | exact ih5 _ _ _ _ _ _ _
   | exact caesuraref11_has.mono _ _ _
   | exact caesuraref11_sound.mono _ _ _ _ _ _
   | exact LeO.none _
   | refine LeO.ite ?_ ?_
   | refine LeO.bind ?_ (fun _ => ?_)
def caesuraref11_Match.T10 : Bool × List (List Nat × List Nat) := (true, [([], []), ([], []), ([1], [1]), ([], []), ([2, 3], [2, 3]), ([4, 4], [4]), ([5], [5]), ([6, 5], [5, 6]), ([5], [5]), ([7, 8, 5], [5, 7, 8]), ([9, 5], [5, 9]), ([5], [5]), ([11, 5], [5, 11]), ([12, 5], [5, 12]), ([10, 13, 5, 5], [5, 10, 13]), ([5, 14], [5, 14]), ([15], [15]), ([0, 16, 14], [0, 16]), ([17, 17, 0, 1, 2, 3, 4, 5, 6, 7, 8, 9, 10, 11, 12, 13, 14, 15, 16, 17], [0, 17])])
def caesuraref11_Match.B10 : List Nat := [0, 0, 2, 0, 14, 30, 62, 126, 62, 510, 1022, 62, 2110, 6206, 16382, 32766, 65534, 131071, 262143]
theorem caesuraref11_Match.tab10 : rtab .any (opsOf Tryd.f30 10) = caesuraref11_Match.T10 := by kernel_rfl
theorem caesuraref11_Match.bits10 : waitsOk caesuraref11_Match.T10.2 caesuraref11_Match.B10 = true := by kernel_rfl
def caesuraref11_Match.T26 : Bool × List (List Nat × List Nat) := (true, [([], []), ([], []), ([], []), ([], []), ([2, 3], [2, 3]), ([4], [4]), ([5], [5]), ([6], [6]), ([7, 6], [6, 7]), ([6], [6]), ([8, 9, 6], [6, 8, 9]), ([10, 6], [6, 10]), ([6], [6]), ([6], [6]), ([12, 13, 6], [6, 12, 13]), ([14, 6], [6, 14]), ([11, 15, 6, 6], [6, 11, 15]), ([6, 16], [6, 16]), ([0, 1, 0, 1, 2, 3, 4, 5, 6, 7, 8, 9, 10, 11, 12, 13, 14, 15, 16, 17], [0, 1]), ([18, 17, 16, 0, 1, 2, 3, 4, 5, 6, 7, 8, 9, 10, 11, 12, 13, 14, 15, 16, 17], [17, 18])])
def caesuraref11_Match.B26 : List Nat := [0, 0, 0, 0, 12, 28, 60, 124, 252, 124, 1020, 2044, 124, 124, 12412, 28796, 65532, 131068, 262143, 524287]
theorem caesuraref11_Match.tab26 : rtab .any (opsOf Tryd.f30 26) = caesuraref11_Match.T26 := by kernel_rfl
theorem caesuraref11_Match.bits26 : waitsOk caesuraref11_Match.T26.2 caesuraref11_Match.B26 = true := by kernel_rfl
set_option maxHeartbeats 8000000 in
set_option maxRecDepth 100000 in
theorem caesuraref11_Match.calls (k : Nat) (A0_0 : Option Addr) (c0_0 : Nat) (l0_0 : List (List Int)) (A0_1 : Option Addr) (c0_1 : Nat) (l0_1 : List Int) (A0_2 : Option Addr) (c0_2 : Nat) (l0_2 : List Int) (A0_3 : Option Addr) (c0_3 : Nat) (l0_3 : List (List Int)) (a0_4 : Bool) (A1 : Option Addr) (c1 : Nat) (l1 : List Int) (r : Bool) (w : World) (hr0_0 : Kd.C (Kd.slice 3 (Kd.int .i64)) w A0_0 l0_0.length l0_0) (hc0_0 : l0_0.length ≤ c0_0) (hr0_1 : Kd.C (Kd.int .i64) w A0_1 l0_1.length l0_1) (hc0_1 : l0_1.length ≤ c0_1) (hr0_2 : Kd.C (Kd.int .i64) w A0_2 l0_2.length l0_2) (hc0_2 : l0_2.length ≤ c0_2) (hr0_3 : Kd.C (Kd.slice 3 (Kd.int .i64)) w A0_3 l0_3.length l0_3) (hc0_3 : l0_3.length ≤ c0_3) (hr1 : Kd.C (Kd.int .i64) w A1 l1.length l1) (hc1 : l1.length ≤ c1) (h : caesuraref11_Match.f k l0_0 l0_1 l0_2 l0_3 a0_4 l1 = some r) :
  Calls Tryd.prog 30 #[.agg #[.slice A0_0 l0_0.length c0_0, .slice A0_1 l0_1.length c0_1, .slice A0_2 l0_2.length c0_2, .slice A0_3 l0_3.length c0_3, .bool a0_4], .slice A1 l1.length c1] w fun e w' => e = .returned (.bool r) ∧ Below w.heap.size w w' := by
 have hu42 := Tryd.underlying42
 have HR0_0 := Aside0.mk hr0_0
 have HC0_0 := Aside0.mk hc0_0
 clear hr0_0 hc0_0
 have HR0_1 := Aside0.mk hr0_1
 have HC0_1 := Aside0.mk hc0_1
 clear hr0_1 hc0_1
 have HR0_2 := Aside0.mk hr0_2
 have HC0_2 := Aside0.mk hc0_2
 clear hr0_2 hc0_2
 have HR0_3 := Aside0.mk hr0_3
 have HC0_3 := Aside0.mk hc0_3
 clear hr0_3 hc0_3
 have HR1 := Aside0.mk hr1
 have HC1 := Aside0.mk hc1
 clear hr1 hc1
 have HB := Aside0.mk (Below.refl w.heap.size w)
 have H : ((caesuraref11_sound.f k l0_0 l0_1 l0_2 l0_3 a0_4).bind fun t363 => (if t363 = true then (if (l1.length : Int) = 0 then (some a0_4) else (caesuraref11_Match.l0 k l1 ([] : List Bool) 0 l0_0 l0_1 l0_2 l0_3 a0_4)) else (some false))) = some r := h
 clear h
 replace H := Option.bind_eq_some_iff.mp H
 obtain ⟨t363, A30, H⟩ := H
 replace H : (if t363 = true then (if (l1.length : Int) = 0 then (some a0_4) else (caesuraref11_Match.l0 k l1 ([] : List Bool) 0 l0_0 l0_1 l0_2 l0_3 a0_4)) else (some false)) = some r := H
 have A3 := Aside0.mk A30
 clear A30
 by_cases c4 : t363 = true
 ·subst c4
  have H1 : (if (l1.length : Int) = 0 then (some a0_4) else (caesuraref11_Match.l0 k l1 ([] : List Bool) 0 l0_0 l0_1 l0_2 l0_3 a0_4)) = some r := by rw [if_pos rfl] at H; exact H
  clear H
  have H := H1
  clear H1
  by_cases c5 : (l1.length : Int) = 0
  ·rw [if_pos c5] at H
   have c5b0 : ((l1.length : Int) == 0) = true := beq_iff_eq.mpr c5
   have c5b1 : ((l1.length : Int) != 0) = false := bne_eq_false_iff_eq.mpr c5
   clear c5
   obtain rfl := Option.some.inj H
   go_enter Tryd.func30, Tryd.ntmps30
   go_wp2_with (first | ((with_reducible refine gate_dst (N := 2) rfl ?_); (try (refine gate_guard (by rfl) ?_; dsimp only)); refine box_event ?hg (N := 2) ?hd (cs := #[.slice A0_0 l0_0.length c0_0, .slice A0_1 l0_1.length c0_1, .slice A0_2 l0_2.length c0_2, .slice A0_3 l0_3.length c0_3, .bool a0_4]) (t := 42) ?hr ?_; (case hd => rfl); (case hg => rfl); (case hr => first | (go_simp; done) | (go_simp; rfl)); intro gb362 hg w6 hbox hb; have n0_ := Aside0.mk (below_step (by repeat (first | (with_reducible first | exact HB.out | apply below_alloc | apply pw_below_drewN | apply below_drew1) | exact HB.out)) hb); have n1_ := Aside0.mk (hbox); have n2_ := Aside0.mk ((by rw [hg]; exact (below_size (by repeat (first | (with_reducible first | exact HB.out | apply below_alloc | apply pw_below_drewN | apply below_drew1) | exact HB.out))) : w.heap.size ≤ gb362)); have n3_ := Aside0.mk ((by rw [hg]; exact (below_size (by repeat (first | (with_reducible first | exact HB.out | apply below_alloc | apply pw_below_drewN | apply below_drew1) | exact HB.out))) : w.heap.size ≤ gb362)); clear HB; have HB := n0_; have BK362 := n1_; have GW362 := n2_; have GE362 := n3_; clear n0_ n1_ n2_ n3_; clear hb hbox hg; have hcz7_0 : w6.cell? ⟨gb362, 0, none⟩ = some (.slice A0_0 l0_0.length c0_0) := (blk_cell BK362.out 0).trans rfl; have hcz7_1 : w6.cell? ⟨gb362, 1, none⟩ = some (.slice A0_1 l0_1.length c0_1) := (blk_cell BK362.out 1).trans rfl; have hcz7_2 : w6.cell? ⟨gb362, 2, none⟩ = some (.slice A0_2 l0_2.length c0_2) := (blk_cell BK362.out 2).trans rfl; have hcz7_3 : w6.cell? ⟨gb362, 3, none⟩ = some (.slice A0_3 l0_3.length c0_3) := (blk_cell BK362.out 3).trans rfl; have hcz7_4 : w6.cell? ⟨gb362, 4, none⟩ = some (.bool a0_4) := (blk_cell BK362.out 4).trans rfl; have hfz7_0 := blk_frozen BK362.out 0; have hfz7_1 := blk_frozen BK362.out 1; have hfz7_2 := blk_frozen BK362.out 2; have hfz7_3 := blk_frozen BK362.out 3; have hfz7_4 := blk_frozen BK362.out 4) | ((with_reducible refine gate_callee (f := 84) rfl ?_); refine goesL_ (some 16) rfl rfl Tryd.func84 (by kernel_rfl) rfl #[.agg #[.slice A0_0 l0_0.length c0_0, .slice A0_1 l0_1.length c0_1, .slice A0_2 l0_2.length c0_2, .slice A0_3 l0_3.length c0_3, .bool a0_4]] rfl (by (try simp only [List.map_toArray, List.map_cons, List.map_nil]); first | done | rfl | (simp only [List.length_drop, List.length_take]; rfl)) ?_; (with_reducible refine (caesuraref11_sound.calls k _ _ l0_0 _ _ l0_1 _ _ l0_2 _ _ l0_3 a0_4 true _ ?side1 ?side2 ?side3 ?side4 ?side5 ?side6 ?side7 ?side8 A3.out).mono ?_); (case side1 => repeat (first | exact (Kd.C_below HR0_0.out HB.out) | (with_reducible refine Kd.C_alloc ?_ _) | (with_reducible refine Kd.C_drewN ?_ _) | (with_reducible refine Kd.C_drew ?_))); (case side2 => exact HC0_0.out); (case side3 => repeat (first | exact (Kd.C_below HR0_1.out HB.out) | (with_reducible refine Kd.C_alloc ?_ _) | (with_reducible refine Kd.C_drewN ?_ _) | (with_reducible refine Kd.C_drew ?_))); (case side4 => exact HC0_1.out); (case side5 => repeat (first | exact (Kd.C_below HR0_2.out HB.out) | (with_reducible refine Kd.C_alloc ?_ _) | (with_reducible refine Kd.C_drewN ?_ _) | (with_reducible refine Kd.C_drew ?_))); (case side6 => exact HC0_2.out); (case side7 => repeat (first | exact (Kd.C_below HR0_3.out HB.out) | (with_reducible refine Kd.C_alloc ?_ _) | (with_reducible refine Kd.C_drewN ?_ _) | (with_reducible refine Kd.C_drew ?_))); (case side8 => exact HC0_3.out); rintro e w8 ⟨rfl, hb⟩; refine ⟨_, rfl, ?_⟩; have n0_ := Aside0.mk (blk_below (g := gb362) (o := .cells #[.slice A0_0 l0_0.length c0_0, .slice A0_1 l0_1.length c0_1, .slice A0_2 l0_2.length c0_2, .slice A0_3 l0_3.length c0_3, .bool a0_4] 42 (0, 0)) (by (with_reducible repeat (first | refine blk_drewN ?_ _ | refine blk_drew ?_ | refine blk_alloc ?_ _)); exact BK362.out) hb); have n1_ := Aside0.mk (below_step (by repeat (first | (with_reducible first | exact HB.out | apply below_alloc | apply pw_below_drewN | apply below_drew1 | refine below_set ?_ GE362.out) | exact HB.out)) hb); clear BK362; clear HB; have BK362 := n0_; have HB := n1_; clear n0_ n1_; (try clear hb); (try clear hb2); (try clear hk); (try clear hi); have hcz9_0 : w8.cell? ⟨gb362, 0, none⟩ = some (.slice A0_0 l0_0.length c0_0) := (blk_cell BK362.out 0).trans rfl; have hcz9_1 : w8.cell? ⟨gb362, 1, none⟩ = some (.slice A0_1 l0_1.length c0_1) := (blk_cell BK362.out 1).trans rfl; have hcz9_2 : w8.cell? ⟨gb362, 2, none⟩ = some (.slice A0_2 l0_2.length c0_2) := (blk_cell BK362.out 2).trans rfl; have hcz9_3 : w8.cell? ⟨gb362, 3, none⟩ = some (.slice A0_3 l0_3.length c0_3) := (blk_cell BK362.out 3).trans rfl; have hcz9_4 : w8.cell? ⟨gb362, 4, none⟩ = some (.bool a0_4) := (blk_cell BK362.out 4).trans rfl; have hfz9_0 := blk_frozen BK362.out 0; have hfz9_1 := blk_frozen BK362.out 1; have hfz9_2 := blk_frozen BK362.out 2; have hfz9_3 := blk_frozen BK362.out 3; have hfz9_4 := blk_frozen BK362.out 4))
   go_ret
   exact ⟨by first | rfl | (simp [errW_none, errW_some] <;> rfl) | (simp [*, errW_none, errW_some] <;> rfl), by repeat (first | (with_reducible first | exact HB.out | apply below_alloc | apply pw_below_drewN | apply below_drew1 | refine below_set ?_ GE362.out) | exact HB.out)⟩
  ·rw [if_neg c5] at H
   have c5b0 : ((l1.length : Int) == 0) = false := beq_eq_false_iff_ne.mpr c5
   have c5b1 : ((l1.length : Int) != 0) = true := bne_iff_ne.mpr c5
   have c5b2 : ¬ (l1 = []) := fun h_ => c5 (by rw [h_]; rfl)
   have H' := Aside0.mk H
   clear H
   go_enter Tryd.func30, Tryd.ntmps30
   go_wp2_with (first | ((with_reducible refine gate_dst (N := 2) rfl ?_); (try (refine gate_guard (by rfl) ?_; dsimp only)); refine box_event ?hg (N := 2) ?hd (cs := #[.slice A0_0 l0_0.length c0_0, .slice A0_1 l0_1.length c0_1, .slice A0_2 l0_2.length c0_2, .slice A0_3 l0_3.length c0_3, .bool a0_4]) (t := 42) ?hr ?_; (case hd => rfl); (case hg => rfl); (case hr => first | (go_simp; done) | (go_simp; rfl)); intro gb362 hg w10 hbox hb; have n0_ := Aside0.mk (below_step (by repeat (first | (with_reducible first | exact HB.out | apply below_alloc | apply pw_below_drewN | apply below_drew1) | exact HB.out)) hb); have n1_ := Aside0.mk (hbox); have n2_ := Aside0.mk ((by rw [hg]; exact (below_size (by repeat (first | (with_reducible first | exact HB.out | apply below_alloc | apply pw_below_drewN | apply below_drew1) | exact HB.out))) : w.heap.size ≤ gb362)); have n3_ := Aside0.mk ((by rw [hg]; exact (below_size (by repeat (first | (with_reducible first | exact HB.out | apply below_alloc | apply pw_below_drewN | apply below_drew1) | exact HB.out))) : w.heap.size ≤ gb362)); clear HB; have HB := n0_; have BK362 := n1_; have GW362 := n2_; have GE362 := n3_; clear n0_ n1_ n2_ n3_; clear hb hbox hg; have hcz11_0 : w10.cell? ⟨gb362, 0, none⟩ = some (.slice A0_0 l0_0.length c0_0) := (blk_cell BK362.out 0).trans rfl; have hcz11_1 : w10.cell? ⟨gb362, 1, none⟩ = some (.slice A0_1 l0_1.length c0_1) := (blk_cell BK362.out 1).trans rfl; have hcz11_2 : w10.cell? ⟨gb362, 2, none⟩ = some (.slice A0_2 l0_2.length c0_2) := (blk_cell BK362.out 2).trans rfl; have hcz11_3 : w10.cell? ⟨gb362, 3, none⟩ = some (.slice A0_3 l0_3.length c0_3) := (blk_cell BK362.out 3).trans rfl; have hcz11_4 : w10.cell? ⟨gb362, 4, none⟩ = some (.bool a0_4) := (blk_cell BK362.out 4).trans rfl; have hfz11_0 := blk_frozen BK362.out 0; have hfz11_1 := blk_frozen BK362.out 1; have hfz11_2 := blk_frozen BK362.out 2; have hfz11_3 := blk_frozen BK362.out 3; have hfz11_4 := blk_frozen BK362.out 4) | ((with_reducible refine gate_callee (f := 84) rfl ?_); refine goesL_ (some 16) rfl rfl Tryd.func84 (by kernel_rfl) rfl #[.agg #[.slice A0_0 l0_0.length c0_0, .slice A0_1 l0_1.length c0_1, .slice A0_2 l0_2.length c0_2, .slice A0_3 l0_3.length c0_3, .bool a0_4]] rfl (by (try simp only [List.map_toArray, List.map_cons, List.map_nil]); first | done | rfl | (simp only [List.length_drop, List.length_take]; rfl)) ?_; (with_reducible refine (caesuraref11_sound.calls k _ _ l0_0 _ _ l0_1 _ _ l0_2 _ _ l0_3 a0_4 true _ ?side1 ?side2 ?side3 ?side4 ?side5 ?side6 ?side7 ?side8 A3.out).mono ?_); (case side1 => repeat (first | exact (Kd.C_below HR0_0.out HB.out) | (with_reducible refine Kd.C_alloc ?_ _) | (with_reducible refine Kd.C_drewN ?_ _) | (with_reducible refine Kd.C_drew ?_))); (case side2 => exact HC0_0.out); (case side3 => repeat (first | exact (Kd.C_below HR0_1.out HB.out) | (with_reducible refine Kd.C_alloc ?_ _) | (with_reducible refine Kd.C_drewN ?_ _) | (with_reducible refine Kd.C_drew ?_))); (case side4 => exact HC0_1.out); (case side5 => repeat (first | exact (Kd.C_below HR0_2.out HB.out) | (with_reducible refine Kd.C_alloc ?_ _) | (with_reducible refine Kd.C_drewN ?_ _) | (with_reducible refine Kd.C_drew ?_))); (case side6 => exact HC0_2.out); (case side7 => repeat (first | exact (Kd.C_below HR0_3.out HB.out) | (with_reducible refine Kd.C_alloc ?_ _) | (with_reducible refine Kd.C_drewN ?_ _) | (with_reducible refine Kd.C_drew ?_))); (case side8 => exact HC0_3.out); rintro e w12 ⟨rfl, hb⟩; refine ⟨_, rfl, ?_⟩; have n0_ := Aside0.mk (blk_below (g := gb362) (o := .cells #[.slice A0_0 l0_0.length c0_0, .slice A0_1 l0_1.length c0_1, .slice A0_2 l0_2.length c0_2, .slice A0_3 l0_3.length c0_3, .bool a0_4] 42 (0, 0)) (by (with_reducible repeat (first | refine blk_drewN ?_ _ | refine blk_drew ?_ | refine blk_alloc ?_ _)); exact BK362.out) hb); have n1_ := Aside0.mk (below_step (by repeat (first | (with_reducible first | exact HB.out | apply below_alloc | apply pw_below_drewN | apply below_drew1 | refine below_set ?_ GE362.out) | exact HB.out)) hb); clear BK362; clear HB; have BK362 := n0_; have HB := n1_; clear n0_ n1_; (try clear hb); (try clear hb2); (try clear hk); (try clear hi)))
   go_loopg [6, 7] k (fun kq v6 v7 w' => ∃ (x6_1 : List Bool) (x7_1 : Int), v7 = .int .i64 x7_1 ∧ Aside0 (caesuraref11_Match.l0 kq l1 x6_1 x7_1 l0_0 l0_1 l0_2 l0_3 a0_4 = some r) ∧ Aside0 (kq ≤ k) ∧ Aside0 (Kd.R Kd.bool 4 w' w.heap.size (fun _ => True) v6 x6_1) ∧ Aside0 (w'.heap[gb362]? = some (.cells #[(.slice A0_0 l0_0.length c0_0), (.slice A0_1 l0_1.length c0_1), (.slice A0_2 l0_2.length c0_2), (.slice A0_3 l0_3.length c0_3), .bool a0_4] 42 (0, 0))) ∧ Aside0 (Below w.heap.size w w'))
   case atStart => exact ⟨(([] : List Bool)), (0), (by first | rfl | (simp; done) | (simp [*]; done)), H', ⟨Nat.le_refl _⟩, ⟨by first | exact Kd.R_nil _ _ _ _ _ | exact Kd.N_nil _ _ _ _ _ | exact Kd.V_nil _ _ _ _ _ | exact Kd.Q_nil _ _ _ _ _ | exact Kd.S_nil _ _ _ _ _⟩, ⟨by (with_reducible repeat (first | refine blk_drewN ?_ _ | refine blk_drew ?_ | refine blk_alloc ?_ _)); exact BK362.out⟩, ⟨by repeat (first | (with_reducible first | exact HB.out | apply below_alloc | apply pw_below_drewN | apply below_drew1 | refine below_set ?_ GE362.out) | exact HB.out)⟩⟩
   case round =>
    clear H'
    try clear c1
    try clear p2
    try clear c3
    try clear c4
    try clear c5
    try clear c5b0
    try clear c5b1
    try clear c5b2
    try clear c8
    try clear hcz11_0
    try clear hcz11_1
    try clear hcz11_2
    try clear hcz11_3
    try clear hcz11_4
    try clear hcz7_0
    try clear hcz7_1
    try clear hcz7_2
    try clear hcz7_3
    try clear hcz7_4
    try clear hcz9_0
    try clear hcz9_1
    try clear hcz9_2
    try clear hcz9_3
    try clear hcz9_4
    try clear hfz11_0
    try clear hfz11_1
    try clear hfz11_2
    try clear hfz11_3
    try clear hfz11_4
    try clear hfz7_0
    try clear hfz7_1
    try clear hfz7_2
    try clear hfz7_3
    try clear hfz7_4
    try clear hfz9_0
    try clear hfz9_1
    try clear hfz9_2
    try clear hfz9_3
    try clear hfz9_4
    obtain ⟨x6_1, x7_1, rfl, HA, HK1, HO_6, BK362, HB⟩ := hrel
    cases gk with
    | zero => exact absurd HA.out (by simp [caesuraref11_Match.l0])
    | succ k1 =>
     have H := HA.out
     clear HA
     simp only [caesuraref11_Match.l0] at H
     by_cases c13 : x7_1 < (l0_0.length : Int)
     ·rw [if_pos c13] at H
      have c13b0 : decide (x7_1 < (l0_0.length : Int)) = true := decide_eq_true c13
      clear c13
      replace H := Option.bind_eq_some_iff.mp H
      obtain ⟨t364, A140, H⟩ := H
      replace H : (if t364 = true then (if 0 ≤ x7_1 then (if 0 < (l1.length : Int) then ((caesuraref11_has.f k1 (rd_L1 l0_0 x7_1) (rd l1 0)).bind fun t367 => (if x6_1.length < 140737488355328 then (caesuraref11_Match.l0 k1 l1 (x6_1 ++ [t367]) (wrap64 (x7_1 + 1)) l0_0 l0_1 l0_2 l0_3 a0_4) else (none))) else (none)) else (none)) else (if x6_1.length < 140737488355328 then (caesuraref11_Match.l0 k1 l1 (x6_1 ++ [false]) (wrap64 (x7_1 + 1)) l0_0 l0_1 l0_2 l0_3 a0_4) else (none))) = some r := H
      have A14 := Aside0.mk A140
      clear A140
      by_cases c15 : t364 = true
      ·subst c15
       have H1 : (if 0 ≤ x7_1 then (if 0 < (l1.length : Int) then ((caesuraref11_has.f k1 (rd_L1 l0_0 x7_1) (rd l1 0)).bind fun t367 => (if x6_1.length < 140737488355328 then (caesuraref11_Match.l0 k1 l1 (x6_1 ++ [t367]) (wrap64 (x7_1 + 1)) l0_0 l0_1 l0_2 l0_3 a0_4) else (none))) else (none)) else (none)) = some r := by rw [if_pos rfl] at H; exact H
       clear H
       have H := H1
       clear H1
       by_cases c16 : 0 ≤ x7_1
       ·rw [if_pos c16] at H
        have c16b0 : decide (0 ≤ x7_1) = true := decide_eq_true c16
        clear c16
        by_cases c17 : 0 < (l1.length : Int)
        ·rw [if_pos c17] at H
         have c17b0 : decide (0 < (l1.length : Int)) = true := decide_eq_true c17
         have c17b1 : decide (0 < l1.length) = true := decide_eq_true (by omega)
         clear c17
         replace H := Option.bind_eq_some_iff.mp H
         obtain ⟨t367, A180, H⟩ := H
         replace H : (if x6_1.length < 140737488355328 then (caesuraref11_Match.l0 k1 l1 (x6_1 ++ [t367]) (wrap64 (x7_1 + 1)) l0_0 l0_1 l0_2 l0_3 a0_4) else (none)) = some r := H
         have A18 := Aside0.mk A180
         clear A180
         by_cases c19 : x6_1.length < 140737488355328
         ·rw [if_pos c19] at H
          have LMc19 := Aside0.mk c19
          clear c19
          obtain ⟨y368, hy368⟩ : ∃ y_ : List Bool, y_ = (x6_1 ++ [t367]) := ⟨_, rfl⟩
          replace H : (caesuraref11_Match.l0 k1 l1 y368 (wrap64 (x7_1 + 1)) l0_0 l0_1 l0_2 l0_3 a0_4) = some r := by first | (rw [hy368]; with_reducible exact H) | (have H2_ := (Option.bind_some _ _).symm.trans H; rw [hy368]; with_reducible exact H2_) | (have H2_ := (Option.bind_some _ _).symm.trans H; with_reducible exact H2_) | with_reducible exact H | (rw [hy368]; exact H) | exact H
          have Ny368 := Aside0.mk hy368
          clear hy368
          have H' := Aside0.mk H
          clear H
          have hcz20_0 : wr.cell? ⟨gb362, 0, none⟩ = some (.slice A0_0 l0_0.length c0_0) := (blk_cell BK362.out 0).trans rfl
          have hcz20_1 : wr.cell? ⟨gb362, 1, none⟩ = some (.slice A0_1 l0_1.length c0_1) := (blk_cell BK362.out 1).trans rfl
          have hcz20_2 : wr.cell? ⟨gb362, 2, none⟩ = some (.slice A0_2 l0_2.length c0_2) := (blk_cell BK362.out 2).trans rfl
          have hcz20_3 : wr.cell? ⟨gb362, 3, none⟩ = some (.slice A0_3 l0_3.length c0_3) := (blk_cell BK362.out 3).trans rfl
          have hcz20_4 : wr.cell? ⟨gb362, 4, none⟩ = some (.bool a0_4) := (blk_cell BK362.out 4).trans rfl
          have hfz20_0 := blk_frozen BK362.out 0
          have hfz20_1 := blk_frozen BK362.out 1
          have hfz20_2 := blk_frozen BK362.out 2
          have hfz20_3 := blk_frozen BK362.out 3
          have hfz20_4 := blk_frozen BK362.out 4
          try go_wp2
          have n0_ := Aside0.mk (Kd.R_drew HO_6.out)
          have n1_ := Aside0.mk (blk_drew BK362.out)
          have n2_ := Aside0.mk (below_drew1 HB.out)
          clear HO_6
          clear BK362
          clear HB
          have HO_6 := n0_
          have BK362 := n1_
          have HB := n2_
          clear n0_ n1_ n2_
          have p365 : 0 ≤ (x7_1 : Int) := of_decide_eq_true (by first | (with_reducible assumption) | assumption)
          have q365 : x7_1 < (l0_0.length : Int) := of_decide_eq_true (by first | (with_reducible assumption) | assumption)
          obtain ⟨ad365, A365_0, c365_0, e365, hx365_0, hl365_0, hi365_0⟩ := at_L1 HR0_0.out x7_1 p365 q365
          have hw365_0 := hx365_0
          cases e365
          replace hx365_0 := (HB.out.cell (World.block_lt_of_cell? w _ hx365_0)).trans hx365_0
          have HR365_0 := Aside0.mk hi365_0
          have HC365_0 := Aside0.mk hl365_0
          clear hi365_0 hl365_0
          replace p365 := eq_true p365
          replace q365 := eq_true q365
          have p366 : 0 ≤ (0 : Int) := (by omega)
          have q366 : 0 < (l1.length : Int) := of_decide_eq_true (by first | (with_reducible assumption) | assumption)
          obtain ⟨ad366, e366, hx366_0⟩ := Kd.at_int HR1.out 0 p366 q366
          have hw366_0 := hx366_0
          (try rw [show ((0 : Int)).toNat = 0 from rfl] at hw366_0)
          (try rw [show 0 * 1 = 0 from rfl] at hw366_0)
          (try rw [Addr.add_zero'] at hw366_0)
          cases e366
          have qi366 : (0 < l1.length) = True := eq_true (by omega)
          (try rw [show ((0 : Int)).toNat = 0 from rfl] at hx366_0)
          (try rw [Addr.add_zero'] at hx366_0)
          replace hx366_0 := (HB.out.cell (World.block_lt_of_cell? w _ hx366_0)).trans hx366_0
          replace p366 := eq_true p366
          replace q366 := eq_true q366
          refine start_ (n := 19) (S := fun w' => w'.cell? ⟨gb362, 0, none⟩ = some (.slice (some ad365) l0_0.length c0_0) ∧ w'.cell? ⟨gb362, 1, none⟩ = some (.slice A0_1 l0_1.length c0_1) ∧ w'.cell? ⟨gb362, 2, none⟩ = some (.slice A0_2 l0_2.length c0_2) ∧ w'.cell? ⟨gb362, 3, none⟩ = some (.slice A0_3 l0_3.length c0_3) ∧ w'.cell? ⟨gb362, 4, none⟩ = some (.bool a0_4) ∧ w'.cell? (ad365.add (x7_1).toNat) = some (.slice A365_0 (rd_L1 l0_0 x7_1).length c365_0) ∧ w'.cell? ad366 = some (.int .i64 (rd l1 0))) (ds := []) #[false, false, false, false, false, false, false, false, false, false, false, false, false, false, false, false, false, false, false] (by kernel_rfl) rfl rfl ⟨(blk_cell BK362.out 0).trans rfl, (blk_cell BK362.out 1).trans rfl, (blk_cell BK362.out 2).trans rfl, (blk_cell BK362.out 3).trans rfl, (blk_cell BK362.out 4).trans rfl, ((HB.out.cell (World.block_lt_of_cell? w _ hw365_0)).trans hw365_0), ((HB.out.cell (World.block_lt_of_cell? w _ hw366_0)).trans hw366_0)⟩ (fun hHeld => ?_); refine with_tabW caesuraref11_Match.tab10 caesuraref11_Match.bits10 (fun HT_ HW_ => ?_)
          generalize wr.drew = w21 at HO_6 BK362 HB HR365_0 hx365_0 hx366_0 hHeld ⊢
          refine pure_ (i := 0) (N := some 31) (v := ?_) (a' := ?_) #[true, false, false, false, false, false, false, false, false, false, false, false, false, false, false, false, false, false, false] rfl rfl (any_of HT_.out (by kernel_rfl)) (fun _ _ _ h => h) (Or.inl ⟨by rfl, ?_⟩) ?_ ?_
          rotate_left
          ·intro w'
           go_simp
           with_reducible rfl
          rotate_left
          ·simp only [Act.put, List.setIfInBounds_toArray, List.set_cons_zero, List.set_cons_succ, i64_w, i32_w]
           rfl
          refine pure_ (i := 1) (N := some 32) (v := ?_) (a' := ?_) #[true, true, false, false, false, false, false, false, false, false, false, false, false, false, false, false, false, false, false] rfl rfl (any_of HT_.out (by kernel_rfl)) (fun _ _ _ h => h) (Or.inl ⟨by rfl, ?_⟩) ?_ ?_
          rotate_left
          ·intro w'
           go_simp
           with_reducible rfl
          rotate_left
          ·simp only [Act.put, List.setIfInBounds_toArray, List.set_cons_zero, List.set_cons_succ, i64_w, i32_w]
           rfl
          refine pure_ (i := 3) (N := some 34) (v := ?_) (a' := ?_) #[true, true, false, true, false, false, false, false, false, false, false, false, false, false, false, false, false, false, false] rfl rfl (any_of HT_.out (by kernel_rfl)) (fun _ _ _ h => h) (Or.inl ⟨by rfl, ?_⟩) ?_ ?_
          rotate_left
          ·intro w'
           go_simp
           with_reducible rfl
          rotate_left
          ·simp only [Act.put, List.setIfInBounds_toArray, List.set_cons_zero, List.set_cons_succ, i64_w, i32_w]
           rfl
          refine take_ (i := 2) (N := some 33) (v := ?_) (a' := ?_) #[true, true, true, true, false, false, false, false, false, false, false, false, false, false, false, false, false, false, false] rfl rfl (take_ofW HT_.out HW_.out (by kernel_rfl)) (fun _ _ _ h => h) (Or.inl ⟨by rfl, ?_⟩) hHeld ?_ ?_
          rotate_left
          ·rintro w' ⟨s0, s1, s2, s3, s4, s5, s6⟩
           go_simp
           with_reducible rfl
          rotate_left
          ·simp only [Act.put, List.setIfInBounds_toArray, List.set_cons_zero, List.set_cons_succ, i64_w, i32_w]
           rfl
          refine one_ (i := 4) (N := some 35) #[true, true, true, true, true, false, false, false, false, false, false, false, false, false, false, false, false, false, false] rfl rfl (one_of HT_.out (by kernel_rfl)) (by decide) (fun K hK => ?_)
          refine goes_ Tryd.func89 (by kernel_rfl) rfl #[.slice A0_1 l0_1.length c0_1, .int .i64 x7_1] (by rfl) rfl rfl (by (try simp only [List.map_toArray, List.map_cons, List.map_nil]); first | done | rfl | (simp only [List.length_drop, List.length_take]; rfl)) ?_
          with_reducible refine (caesuraref11_has.calls k1 _ _ l0_1 x7_1 true _ ?side1 ?side2 A14.out).mono ?_
          (case side1 => repeat (first | exact (Kd.C_below HR0_1.out HB.out) | (with_reducible refine Kd.C_alloc ?_ _) | (with_reducible refine Kd.C_drewN ?_ _) | (with_reducible refine Kd.C_drew ?_)))
          (case side2 => exact HC0_1.out)
          rintro e w' ⟨rfl, ⟨nd, rfl⟩⟩
          refine ⟨_, rfl, ?_⟩
          refine hK.out _ _ ⟨(blk_cell BK362.out 0).trans rfl, (blk_cell BK362.out 1).trans rfl, (blk_cell BK362.out 2).trans rfl, (blk_cell BK362.out 3).trans rfl, (blk_cell BK362.out 4).trans rfl, ((HB.out.cell (World.block_lt_of_cell? w _ hw365_0)).trans hw365_0), ((HB.out.cell (World.block_lt_of_cell? w _ hw366_0)).trans hw366_0)⟩ (fun hHeld => ?_)
          clear hK K
          refine norm_ (a' := ?_) ?_ ?_
          rotate_left
          ·show Act.put _ (some 35) _ = _
           simp only [Act.put, List.setIfInBounds_toArray, List.set_cons_zero, List.set_cons_succ, i64_w, i32_w]
           rfl
          refine pure_ (i := 5) (N := some 36) (v := ?_) (a' := ?_) #[true, true, true, true, true, true, false, false, false, false, false, false, false, false, false, false, false, false, false] rfl rfl (any_of HT_.out (by kernel_rfl)) (fun _ _ _ h => h) (Or.inl ⟨by rfl, ?_⟩) ?_ ?_
          rotate_left
          ·intro w'
           go_simp
           with_reducible rfl
          rotate_left
          ·simp only [Act.put, List.setIfInBounds_toArray, List.set_cons_zero, List.set_cons_succ, i64_w, i32_w]
           rfl
          refine pure_ (i := 6) (N := some 37) (v := ?_) (a' := ?_) #[true, true, true, true, true, true, true, false, false, false, false, false, false, false, false, false, false, false, false] rfl rfl (any_of HT_.out (by kernel_rfl)) (fun _ _ _ h => h) (Or.inl ⟨by rfl, ?_⟩) ?_ ?_
          rotate_left
          ·intro w'
           go_simp
           with_reducible rfl
          rotate_left
          ·simp only [Act.put, List.setIfInBounds_toArray, List.set_cons_zero, List.set_cons_succ, i64_w, i32_w]
           rfl
          refine pure_ (i := 8) (N := some 39) (v := ?_) (a' := ?_) #[true, true, true, true, true, true, true, false, true, false, false, false, false, false, false, false, false, false, false] rfl rfl (any_of HT_.out (by kernel_rfl)) (fun _ _ _ h => h) (Or.inl ⟨by rfl, ?_⟩) ?_ ?_
          rotate_left
          ·intro w'
           go_simp
           with_reducible rfl
          rotate_left
          ·simp only [Act.put, List.setIfInBounds_toArray, List.set_cons_zero, List.set_cons_succ, i64_w, i32_w]
           rfl
          refine pure_ (i := 11) (N := some 42) (v := ?_) (a' := ?_) #[true, true, true, true, true, true, true, false, true, false, false, true, false, false, false, false, false, false, false] rfl rfl (any_of HT_.out (by kernel_rfl)) (fun _ _ _ h => h) (Or.inl ⟨by rfl, ?_⟩) ?_ ?_
          rotate_left
          ·intro w'
           go_simp
           with_reducible rfl
          rotate_left
          ·simp only [Act.put, List.setIfInBounds_toArray, List.set_cons_zero, List.set_cons_succ, i64_w, i32_w]
           rfl
          refine pure_ (i := 12) (N := some 43) (v := ?_) (a' := ?_) #[true, true, true, true, true, true, true, false, true, false, false, true, true, false, false, false, false, false, false] rfl rfl (any_of HT_.out (by kernel_rfl)) (fun _ _ _ h => h) (Or.inl ⟨by rfl, ?_⟩) ?_ ?_
          rotate_left
          ·intro w'
           go_simp
           with_reducible rfl
          rotate_left
          ·simp only [Act.put, List.setIfInBounds_toArray, List.set_cons_zero, List.set_cons_succ, i64_w, i32_w]
           rfl
          refine take_ (i := 7) (N := some 38) (v := ?_) (a' := ?_) #[true, true, true, true, true, true, true, true, true, false, false, true, true, false, false, false, false, false, false] rfl rfl (take_ofW HT_.out HW_.out (by kernel_rfl)) (fun _ _ _ h => h) (Or.inl ⟨by rfl, ?_⟩) hHeld ?_ ?_
          rotate_left
          ·rintro w' ⟨s0, s1, s2, s3, s4, s5, s6⟩
           go_simp
           with_reducible rfl
          rotate_left
          ·simp only [Act.put, List.setIfInBounds_toArray, List.set_cons_zero, List.set_cons_succ, i64_w, i32_w]
           rfl
          refine pure_ (i := 9) (N := some 40) (v := ?_) (a' := ?_) #[true, true, true, true, true, true, true, true, true, true, false, true, true, false, false, false, false, false, false] rfl rfl (any_of HT_.out (by kernel_rfl)) (fun _ _ _ h => h) (Or.inl ⟨by rfl, ?_⟩) ?_ ?_
          rotate_left
          ·intro w'
           go_simp
           with_reducible rfl
          rotate_left
          ·simp only [Act.put, List.setIfInBounds_toArray, List.set_cons_zero, List.set_cons_succ, i64_w, i32_w]
           rfl
          refine take_ (i := 10) (N := some 41) (v := ?_) (a' := ?_) #[true, true, true, true, true, true, true, true, true, true, true, true, true, false, false, false, false, false, false] rfl rfl (take_ofW HT_.out HW_.out (by kernel_rfl)) (fun _ _ _ h => h) (Or.inl ⟨by rfl, ?_⟩) hHeld ?_ ?_
          rotate_left
          ·rintro w' ⟨s0, s1, s2, s3, s4, s5, s6⟩
           go_simp
           with_reducible rfl
          rotate_left
          ·simp only [Act.put, List.setIfInBounds_toArray, List.set_cons_zero, List.set_cons_succ, i64_w, i32_w]
           rfl
          refine take_ (i := 13) (N := some 44) (v := ?_) (a' := ?_) #[true, true, true, true, true, true, true, true, true, true, true, true, true, true, false, false, false, false, false] rfl rfl (take_ofW HT_.out HW_.out (by kernel_rfl)) (fun _ _ _ h => h) (Or.inl ⟨by rfl, ?_⟩) hHeld ?_ ?_
          rotate_left
          ·rintro w' ⟨s0, s1, s2, s3, s4, s5, s6⟩
           go_simp
           with_reducible rfl
          rotate_left
          ·simp only [Act.put, List.setIfInBounds_toArray, List.set_cons_zero, List.set_cons_succ, i64_w, i32_w]
           rfl
          refine one_ (i := 14) (N := some 45) #[true, true, true, true, true, true, true, true, true, true, true, true, true, true, true, false, false, false, false] rfl rfl (one_of HT_.out (by kernel_rfl)) (by decide) (fun K hK => ?_)
          refine goes_ Tryd.func89 (by kernel_rfl) rfl #[.slice A365_0 (rd_L1 l0_0 x7_1).length c365_0, .int .i64 (rd l1 0)] (by rfl) rfl rfl (by (try simp only [List.map_toArray, List.map_cons, List.map_nil]); first | done | rfl | (simp only [List.length_drop, List.length_take]; rfl)) ?_
          with_reducible refine (caesuraref11_has.calls k1 _ _ (rd_L1 l0_0 x7_1) (rd l1 0) t367 _ ?side1 ?side2 A18.out).mono ?_
          (case side1 => repeat (first | exact (Kd.C_below HR365_0.out (by repeat (first | (with_reducible first | exact HB.out | apply below_alloc | apply pw_below_drewN | apply below_drew1 | refine below_set ?_ GE362.out) | exact HB.out))) | (with_reducible refine Kd.C_alloc ?_ _) | (with_reducible refine Kd.C_drewN ?_ _) | (with_reducible refine Kd.C_drew ?_)))
          (case side2 => exact HC365_0.out)
          rintro e w' ⟨rfl, ⟨nd, rfl⟩⟩
          refine ⟨_, rfl, ?_⟩
          refine hK.out _ _ ⟨(blk_cell BK362.out 0).trans rfl, (blk_cell BK362.out 1).trans rfl, (blk_cell BK362.out 2).trans rfl, (blk_cell BK362.out 3).trans rfl, (blk_cell BK362.out 4).trans rfl, ((HB.out.cell (World.block_lt_of_cell? w _ hw365_0)).trans hw365_0), ((HB.out.cell (World.block_lt_of_cell? w _ hw366_0)).trans hw366_0)⟩ (fun hHeld => ?_)
          clear hK K
          refine norm_ (a' := ?_) ?_ ?_
          rotate_left
          ·show Act.put _ (some 45) _ = _
           simp only [Act.put, List.setIfInBounds_toArray, List.set_cons_zero, List.set_cons_succ, i64_w, i32_w]
           rfl
          refine pure_ (i := 15) (N := some 46) (v := ?_) (a' := ?_) #[true, true, true, true, true, true, true, true, true, true, true, true, true, true, true, true, false, false, false] rfl rfl (any_of HT_.out (by kernel_rfl)) (fun _ _ _ h => h) (Or.inl ⟨by rfl, ?_⟩) ?_ ?_
          rotate_left
          ·intro w'
           go_simp
           with_reducible rfl
          rotate_left
          ·simp only [Act.put, List.setIfInBounds_toArray, List.set_cons_zero, List.set_cons_succ, i64_w, i32_w]
           rfl
          refine one_ (i := 16) (N := some 47) #[true, true, true, true, true, true, true, true, true, true, true, true, true, true, true, true, true, false, false] rfl rfl (one_of HT_.out (by kernel_rfl)) (by decide) (fun K hK => ?_)
          refine value_ (w1 := ?_) (v := ?_) (by rfl) rfl ?_ ?_
          rotate_left 2
          ·go_simp
           constructor
           ·rfl
           ·rfl
          refine hK.out _ _ ⟨(blk_cell (blk_alloc BK362.out _) 0).trans rfl, (blk_cell (blk_alloc BK362.out _) 1).trans rfl, (blk_cell (blk_alloc BK362.out _) 2).trans rfl, (blk_cell (blk_alloc BK362.out _) 3).trans rfl, (blk_cell (blk_alloc BK362.out _) 4).trans rfl, (World.cell?_alloc_lt _ _ _ (World.block_lt_of_cell? _ _ (((HB.out.cell (World.block_lt_of_cell? w _ hw365_0)).trans hw365_0)))).trans (((HB.out.cell (World.block_lt_of_cell? w _ hw365_0)).trans hw365_0)), (World.cell?_alloc_lt _ _ _ (World.block_lt_of_cell? _ _ (((HB.out.cell (World.block_lt_of_cell? w _ hw366_0)).trans hw366_0)))).trans (((HB.out.cell (World.block_lt_of_cell? w _ hw366_0)).trans hw366_0))⟩ (fun hHeld => ?_)
          clear hK K
          refine norm_ (a' := ?_) ?_ ?_
          rotate_left
          ·show Act.put _ (some 47) _ = _
           simp only [Act.put, List.setIfInBounds_toArray, List.set_cons_zero, List.set_cons_succ, i64_w, i32_w]
           rfl
          refine one_ (i := 17) (N := some 48) #[true, true, true, true, true, true, true, true, true, true, true, true, true, true, true, true, true, true, false] rfl rfl (one_of HT_.out (by kernel_rfl)) (by decide) (fun K hK => ?_)
          refine Kd.R_append_step Kd.bool (w0 := w) w.heap.size (by rfl) (.tmp 31) (.tmp 47) 58 4 (.bool false) 1 rfl Tryd.underlying58 info4 rfl (by decide) (by omega) u6 x6_1 t367 [.bool t367] (fun _ => True) (fun _ => False) rfl rfl ?aP (fun _ hk => hk.elim) ?aF ?aO ?aB ?aS ?aL ?_
          (case aP => exact rfl)
          (case aB => exact (by repeat (first | (with_reducible first | exact HB.out | apply below_alloc | apply pw_below_drewN | apply below_drew1 | refine below_set ?_ GE362.out) | exact HB.out)))
          (case aF => exact (fun _ _ => trivial))
          (case aO => exact (by (with_reducible repeat (first | apply Kd.R_alloc | apply Kd.R_drewN | apply Kd.R_drew)); exact HO_6.out))
          (case aS => exact (below_size (by repeat (first | (with_reducible first | exact HB.out | apply below_alloc | apply pw_below_drewN | apply below_drew1 | refine below_set ?_ GE362.out) | exact HB.out))))
          (case aL => have := LMc19.out; omega)
          intro v369 w22 ho hb hg hat
          rw [← Ny368.out] at ho
          have n0_ := Aside0.mk (blk_grown (g := gb362) (o := .cells #[.slice (some ad365) l0_0.length c0_0, .slice A0_1 l0_1.length c0_1, .slice A0_2 l0_2.length c0_2, .slice A0_3 l0_3.length c0_3, .bool a0_4] 42 (0, 0)) (by (with_reducible repeat (first | refine blk_drewN ?_ _ | refine blk_drew ?_ | refine blk_alloc ?_ _)); exact BK362.out) hg (Kd.R_ne HO_6.out BK362.out (by decide)))
          have n1_ := Aside0.mk (hb)
          have n2_ := Aside0.mk (ho)
          clear BK362
          clear HB
          clear HO_6
          have BK362 := n0_
          have HB := n1_
          have HO370 := n2_
          clear n0_ n1_ n2_
          clear ho hb hg hat
          refine hK.out _ _ ⟨(blk_cell BK362.out 0).trans rfl, (blk_cell BK362.out 1).trans rfl, (blk_cell BK362.out 2).trans rfl, (blk_cell BK362.out 3).trans rfl, (blk_cell BK362.out 4).trans rfl, ((HB.out.cell (World.block_lt_of_cell? w _ hw365_0)).trans hw365_0), ((HB.out.cell (World.block_lt_of_cell? w _ hw366_0)).trans hw366_0)⟩ (fun hHeld => ?_)
          clear hK K
          refine norm_ (a' := ?_) ?_ ?_
          rotate_left
          ·show Act.put _ (some 48) _ = _
           simp only [Act.put, List.setIfInBounds_toArray, List.set_cons_zero, List.set_cons_succ, i64_w, i32_w]
           rfl
          refine pure_ (i := 18) (N := some 6) (v := ?_) (a' := ?_) #[true, true, true, true, true, true, true, true, true, true, true, true, true, true, true, true, true, true, true] rfl rfl (any_of HT_.out (by kernel_rfl)) (fun _ _ _ h => h) (Or.inl ⟨by rfl, ?_⟩) ?_ ?_
          rotate_left
          ·intro w'
           go_simp
           with_reducible rfl
          rotate_left
          ·simp only [Act.put, List.setIfInBounds_toArray, List.set_cons_zero, List.set_cons_succ, i64_w, i32_w]
           rfl
          refine done_ (done_of HT_.out (by kernel_rfl)) ?_
          try go_wp2
          go_roundg k1
          case measure => have := HK1.out; omega
          case rel => exact ⟨(y368), (wrap64 (x7_1 + 1)), (by first | rfl | (simp; done) | (simp [*]; done)), H', ⟨by have := HK1.out; omega⟩, ⟨by (with_reducible repeat (first | apply Kd.R_alloc | apply Kd.R_drewN | apply Kd.R_drew)); exact HO370.out⟩, ⟨by (with_reducible repeat (first | refine blk_drewN ?_ _ | refine blk_drew ?_ | refine blk_alloc ?_ _)); exact BK362.out⟩, ⟨by repeat (first | (with_reducible first | exact HB.out | apply below_alloc | apply pw_below_drewN | apply below_drew1 | refine below_set ?_ GE362.out) | exact HB.out)⟩⟩
         ·rw [if_neg c19] at H
          exact absurd H (by simp)
        ·rw [if_neg c17] at H
         exact absurd H (by simp)
       ·rw [if_neg c16] at H
        exact absurd H (by simp)
      ·replace c15 := Bool.eq_false_iff.mpr c15
       subst c15
       have H1 : (if x6_1.length < 140737488355328 then (caesuraref11_Match.l0 k1 l1 (x6_1 ++ [false]) (wrap64 (x7_1 + 1)) l0_0 l0_1 l0_2 l0_3 a0_4) else (none)) = some r := by rw [if_neg (show ¬ (false = true) by decide)] at H; exact H
       clear H
       have H := H1
       clear H1
       by_cases c23 : x6_1.length < 140737488355328
       ·rw [if_pos c23] at H
        have LMc23 := Aside0.mk c23
        clear c23
        obtain ⟨y371, hy371⟩ : ∃ y_ : List Bool, y_ = (x6_1 ++ [false]) := ⟨_, rfl⟩
        replace H : (caesuraref11_Match.l0 k1 l1 y371 (wrap64 (x7_1 + 1)) l0_0 l0_1 l0_2 l0_3 a0_4) = some r := by first | (rw [hy371]; with_reducible exact H) | (have H2_ := (Option.bind_some _ _).symm.trans H; rw [hy371]; with_reducible exact H2_) | (have H2_ := (Option.bind_some _ _).symm.trans H; with_reducible exact H2_) | with_reducible exact H | (rw [hy371]; exact H) | exact H
        have Ny371 := Aside0.mk hy371
        clear hy371
        have H' := Aside0.mk H
        clear H
        have hcz24_0 : wr.cell? ⟨gb362, 0, none⟩ = some (.slice A0_0 l0_0.length c0_0) := (blk_cell BK362.out 0).trans rfl
        have hcz24_1 : wr.cell? ⟨gb362, 1, none⟩ = some (.slice A0_1 l0_1.length c0_1) := (blk_cell BK362.out 1).trans rfl
        have hcz24_2 : wr.cell? ⟨gb362, 2, none⟩ = some (.slice A0_2 l0_2.length c0_2) := (blk_cell BK362.out 2).trans rfl
        have hcz24_3 : wr.cell? ⟨gb362, 3, none⟩ = some (.slice A0_3 l0_3.length c0_3) := (blk_cell BK362.out 3).trans rfl
        have hcz24_4 : wr.cell? ⟨gb362, 4, none⟩ = some (.bool a0_4) := (blk_cell BK362.out 4).trans rfl
        have hfz24_0 := blk_frozen BK362.out 0
        have hfz24_1 := blk_frozen BK362.out 1
        have hfz24_2 := blk_frozen BK362.out 2
        have hfz24_3 := blk_frozen BK362.out 3
        have hfz24_4 := blk_frozen BK362.out 4
        try go_wp2
        have n0_ := Aside0.mk (Kd.R_drew HO_6.out)
        have n1_ := Aside0.mk (blk_drew BK362.out)
        have n2_ := Aside0.mk (below_drew1 HB.out)
        clear HO_6
        clear BK362
        clear HB
        have HO_6 := n0_
        have BK362 := n1_
        have HB := n2_
        clear n0_ n1_ n2_
        refine start_ (n := 19) (S := fun w' => w'.cell? ⟨gb362, 0, none⟩ = some (.slice A0_0 l0_0.length c0_0) ∧ w'.cell? ⟨gb362, 1, none⟩ = some (.slice A0_1 l0_1.length c0_1) ∧ w'.cell? ⟨gb362, 2, none⟩ = some (.slice A0_2 l0_2.length c0_2) ∧ w'.cell? ⟨gb362, 3, none⟩ = some (.slice A0_3 l0_3.length c0_3) ∧ w'.cell? ⟨gb362, 4, none⟩ = some (.bool a0_4)) (ds := []) #[false, false, false, false, false, false, false, false, false, false, false, false, false, false, false, false, false, false, false] (by kernel_rfl) rfl rfl ⟨(blk_cell BK362.out 0).trans rfl, (blk_cell BK362.out 1).trans rfl, (blk_cell BK362.out 2).trans rfl, (blk_cell BK362.out 3).trans rfl, (blk_cell BK362.out 4).trans rfl⟩ (fun hHeld => ?_); refine with_tabW caesuraref11_Match.tab10 caesuraref11_Match.bits10 (fun HT_ HW_ => ?_)
        generalize wr.drew = w25 at HO_6 BK362 HB hHeld ⊢
        refine pure_ (i := 0) (N := some 31) (v := ?_) (a' := ?_) #[true, false, false, false, false, false, false, false, false, false, false, false, false, false, false, false, false, false, false] rfl rfl (any_of HT_.out (by kernel_rfl)) (fun _ _ _ h => h) (Or.inl ⟨by rfl, ?_⟩) ?_ ?_
        rotate_left
        ·intro w'
         go_simp
         with_reducible rfl
        rotate_left
        ·simp only [Act.put, List.setIfInBounds_toArray, List.set_cons_zero, List.set_cons_succ, i64_w, i32_w]
         rfl
        refine pure_ (i := 1) (N := some 32) (v := ?_) (a' := ?_) #[true, true, false, false, false, false, false, false, false, false, false, false, false, false, false, false, false, false, false] rfl rfl (any_of HT_.out (by kernel_rfl)) (fun _ _ _ h => h) (Or.inl ⟨by rfl, ?_⟩) ?_ ?_
        rotate_left
        ·intro w'
         go_simp
         with_reducible rfl
        rotate_left
        ·simp only [Act.put, List.setIfInBounds_toArray, List.set_cons_zero, List.set_cons_succ, i64_w, i32_w]
         rfl
        refine pure_ (i := 3) (N := some 34) (v := ?_) (a' := ?_) #[true, true, false, true, false, false, false, false, false, false, false, false, false, false, false, false, false, false, false] rfl rfl (any_of HT_.out (by kernel_rfl)) (fun _ _ _ h => h) (Or.inl ⟨by rfl, ?_⟩) ?_ ?_
        rotate_left
        ·intro w'
         go_simp
         with_reducible rfl
        rotate_left
        ·simp only [Act.put, List.setIfInBounds_toArray, List.set_cons_zero, List.set_cons_succ, i64_w, i32_w]
         rfl
        refine take_ (i := 2) (N := some 33) (v := ?_) (a' := ?_) #[true, true, true, true, false, false, false, false, false, false, false, false, false, false, false, false, false, false, false] rfl rfl (take_ofW HT_.out HW_.out (by kernel_rfl)) (fun _ _ _ h => h) (Or.inl ⟨by rfl, ?_⟩) hHeld ?_ ?_
        rotate_left
        ·rintro w' ⟨s0, s1, s2, s3, s4⟩
         go_simp
         with_reducible rfl
        rotate_left
        ·simp only [Act.put, List.setIfInBounds_toArray, List.set_cons_zero, List.set_cons_succ, i64_w, i32_w]
         rfl
        refine one_ (i := 4) (N := some 35) #[true, true, true, true, true, false, false, false, false, false, false, false, false, false, false, false, false, false, false] rfl rfl (one_of HT_.out (by kernel_rfl)) (by decide) (fun K hK => ?_)
        refine goes_ Tryd.func89 (by kernel_rfl) rfl #[.slice A0_1 l0_1.length c0_1, .int .i64 x7_1] (by rfl) rfl rfl (by (try simp only [List.map_toArray, List.map_cons, List.map_nil]); first | done | rfl | (simp only [List.length_drop, List.length_take]; rfl)) ?_
        with_reducible refine (caesuraref11_has.calls k1 _ _ l0_1 x7_1 false _ ?side1 ?side2 A14.out).mono ?_
        (case side1 => repeat (first | exact (Kd.C_below HR0_1.out HB.out) | (with_reducible refine Kd.C_alloc ?_ _) | (with_reducible refine Kd.C_drewN ?_ _) | (with_reducible refine Kd.C_drew ?_)))
        (case side2 => exact HC0_1.out)
        rintro e w' ⟨rfl, ⟨nd, rfl⟩⟩
        refine ⟨_, rfl, ?_⟩
        refine hK.out _ _ ⟨(blk_cell BK362.out 0).trans rfl, (blk_cell BK362.out 1).trans rfl, (blk_cell BK362.out 2).trans rfl, (blk_cell BK362.out 3).trans rfl, (blk_cell BK362.out 4).trans rfl⟩ (fun hHeld => ?_)
        clear hK K
        refine norm_ (a' := ?_) ?_ ?_
        rotate_left
        ·show Act.put _ (some 35) _ = _
         simp only [Act.put, List.setIfInBounds_toArray, List.set_cons_zero, List.set_cons_succ, i64_w, i32_w]
         rfl
        refine pure_ (i := 5) (N := some 36) (v := ?_) (a' := ?_) #[true, true, true, true, true, true, false, false, false, false, false, false, false, false, false, false, false, false, false] rfl rfl (any_of HT_.out (by kernel_rfl)) (fun _ _ _ h => h) (Or.inl ⟨by rfl, ?_⟩) ?_ ?_
        rotate_left
        ·intro w'
         go_simp
         with_reducible rfl
        rotate_left
        ·simp only [Act.put, List.setIfInBounds_toArray, List.set_cons_zero, List.set_cons_succ, i64_w, i32_w]
         rfl
        refine pure_ (i := 6) (N := some 37) (v := undef) (a' := ?_) #[true, true, true, true, true, true, true, false, false, false, false, false, false, false, false, false, false, false, false] rfl rfl (any_of HT_.out (by kernel_rfl)) (fun _ _ _ h => h) (Or.inr ⟨by rfl, rfl⟩) ?_ ?_
        rotate_left
        ·simp only [Act.put, List.setIfInBounds_toArray, List.set_cons_zero, List.set_cons_succ, i64_w, i32_w]
         rfl
        refine pure_ (i := 7) (N := some 38) (v := undef) (a' := ?_) #[true, true, true, true, true, true, true, true, false, false, false, false, false, false, false, false, false, false, false] rfl rfl (any_of HT_.out (by kernel_rfl)) (fun _ _ _ h => h) (Or.inr ⟨by rfl, rfl⟩) ?_ ?_
        rotate_left
        ·simp only [Act.put, List.setIfInBounds_toArray, List.set_cons_zero, List.set_cons_succ, i64_w, i32_w]
         rfl
        refine pure_ (i := 8) (N := some 39) (v := undef) (a' := ?_) #[true, true, true, true, true, true, true, true, true, false, false, false, false, false, false, false, false, false, false] rfl rfl (any_of HT_.out (by kernel_rfl)) (fun _ _ _ h => h) (Or.inr ⟨by rfl, rfl⟩) ?_ ?_
        rotate_left
        ·simp only [Act.put, List.setIfInBounds_toArray, List.set_cons_zero, List.set_cons_succ, i64_w, i32_w]
         rfl
        refine pure_ (i := 9) (N := some 40) (v := undef) (a' := ?_) #[true, true, true, true, true, true, true, true, true, true, false, false, false, false, false, false, false, false, false] rfl rfl (any_of HT_.out (by kernel_rfl)) (fun _ _ _ h => h) (Or.inr ⟨by rfl, rfl⟩) ?_ ?_
        rotate_left
        ·simp only [Act.put, List.setIfInBounds_toArray, List.set_cons_zero, List.set_cons_succ, i64_w, i32_w]
         rfl
        refine pure_ (i := 10) (N := some 41) (v := undef) (a' := ?_) #[true, true, true, true, true, true, true, true, true, true, true, false, false, false, false, false, false, false, false] rfl rfl (any_of HT_.out (by kernel_rfl)) (fun _ _ _ h => h) (Or.inr ⟨by rfl, rfl⟩) ?_ ?_
        rotate_left
        ·simp only [Act.put, List.setIfInBounds_toArray, List.set_cons_zero, List.set_cons_succ, i64_w, i32_w]
         rfl
        refine pure_ (i := 11) (N := some 42) (v := undef) (a' := ?_) #[true, true, true, true, true, true, true, true, true, true, true, true, false, false, false, false, false, false, false] rfl rfl (any_of HT_.out (by kernel_rfl)) (fun _ _ _ h => h) (Or.inr ⟨by rfl, rfl⟩) ?_ ?_
        rotate_left
        ·simp only [Act.put, List.setIfInBounds_toArray, List.set_cons_zero, List.set_cons_succ, i64_w, i32_w]
         rfl
        refine pure_ (i := 12) (N := some 43) (v := undef) (a' := ?_) #[true, true, true, true, true, true, true, true, true, true, true, true, true, false, false, false, false, false, false] rfl rfl (any_of HT_.out (by kernel_rfl)) (fun _ _ _ h => h) (Or.inr ⟨by rfl, rfl⟩) ?_ ?_
        rotate_left
        ·simp only [Act.put, List.setIfInBounds_toArray, List.set_cons_zero, List.set_cons_succ, i64_w, i32_w]
         rfl
        refine pure_ (i := 13) (N := some 44) (v := undef) (a' := ?_) #[true, true, true, true, true, true, true, true, true, true, true, true, true, true, false, false, false, false, false] rfl rfl (any_of HT_.out (by kernel_rfl)) (fun _ _ _ h => h) (Or.inr ⟨by rfl, rfl⟩) ?_ ?_
        rotate_left
        ·simp only [Act.put, List.setIfInBounds_toArray, List.set_cons_zero, List.set_cons_succ, i64_w, i32_w]
         rfl
        refine pure_ (i := 14) (N := some 45) (v := undef) (a' := ?_) #[true, true, true, true, true, true, true, true, true, true, true, true, true, true, true, false, false, false, false] rfl rfl (any_of HT_.out (by kernel_rfl)) (fun _ _ _ h => h) (Or.inr ⟨by rfl, rfl⟩) ?_ ?_
        rotate_left
        ·simp only [Act.put, List.setIfInBounds_toArray, List.set_cons_zero, List.set_cons_succ, i64_w, i32_w]
         rfl
        refine pure_ (i := 15) (N := some 46) (v := ?_) (a' := ?_) #[true, true, true, true, true, true, true, true, true, true, true, true, true, true, true, true, false, false, false] rfl rfl (any_of HT_.out (by kernel_rfl)) (fun _ _ _ h => h) (Or.inl ⟨by rfl, ?_⟩) ?_ ?_
        rotate_left
        ·intro w'
         go_simp
         with_reducible rfl
        rotate_left
        ·simp only [Act.put, List.setIfInBounds_toArray, List.set_cons_zero, List.set_cons_succ, i64_w, i32_w]
         rfl
        refine one_ (i := 16) (N := some 47) #[true, true, true, true, true, true, true, true, true, true, true, true, true, true, true, true, true, false, false] rfl rfl (one_of HT_.out (by kernel_rfl)) (by decide) (fun K hK => ?_)
        refine value_ (w1 := ?_) (v := ?_) (by rfl) rfl ?_ ?_
        rotate_left 2
        ·go_simp
         constructor
         ·rfl
         ·rfl
        refine hK.out _ _ ⟨(blk_cell (blk_alloc BK362.out _) 0).trans rfl, (blk_cell (blk_alloc BK362.out _) 1).trans rfl, (blk_cell (blk_alloc BK362.out _) 2).trans rfl, (blk_cell (blk_alloc BK362.out _) 3).trans rfl, (blk_cell (blk_alloc BK362.out _) 4).trans rfl⟩ (fun hHeld => ?_)
        clear hK K
        refine norm_ (a' := ?_) ?_ ?_
        rotate_left
        ·show Act.put _ (some 47) _ = _
         simp only [Act.put, List.setIfInBounds_toArray, List.set_cons_zero, List.set_cons_succ, i64_w, i32_w]
         rfl
        refine one_ (i := 17) (N := some 48) #[true, true, true, true, true, true, true, true, true, true, true, true, true, true, true, true, true, true, false] rfl rfl (one_of HT_.out (by kernel_rfl)) (by decide) (fun K hK => ?_)
        refine Kd.R_append_step Kd.bool (w0 := w) w.heap.size (by rfl) (.tmp 31) (.tmp 47) 58 4 (.bool false) 1 rfl Tryd.underlying58 info4 rfl (by decide) (by omega) u6 x6_1 false [.bool false] (fun _ => True) (fun _ => False) rfl rfl ?aP (fun _ hk => hk.elim) ?aF ?aO ?aB ?aS ?aL ?_
        (case aP => exact rfl)
        (case aB => exact (by repeat (first | (with_reducible first | exact HB.out | apply below_alloc | apply pw_below_drewN | apply below_drew1 | refine below_set ?_ GE362.out) | exact HB.out)))
        (case aF => exact (fun _ _ => trivial))
        (case aO => exact (by (with_reducible repeat (first | apply Kd.R_alloc | apply Kd.R_drewN | apply Kd.R_drew)); exact HO_6.out))
        (case aS => exact (below_size (by repeat (first | (with_reducible first | exact HB.out | apply below_alloc | apply pw_below_drewN | apply below_drew1 | refine below_set ?_ GE362.out) | exact HB.out))))
        (case aL => have := LMc23.out; omega)
        intro v372 w26 ho hb hg hat
        rw [← Ny371.out] at ho
        have n0_ := Aside0.mk (blk_grown (g := gb362) (o := .cells #[.slice A0_0 l0_0.length c0_0, .slice A0_1 l0_1.length c0_1, .slice A0_2 l0_2.length c0_2, .slice A0_3 l0_3.length c0_3, .bool a0_4] 42 (0, 0)) (by (with_reducible repeat (first | refine blk_drewN ?_ _ | refine blk_drew ?_ | refine blk_alloc ?_ _)); exact BK362.out) hg (Kd.R_ne HO_6.out BK362.out (by decide)))
        have n1_ := Aside0.mk (hb)
        have n2_ := Aside0.mk (ho)
        clear BK362
        clear HB
        clear HO_6
        have BK362 := n0_
        have HB := n1_
        have HO373 := n2_
        clear n0_ n1_ n2_
        clear ho hb hg hat
        refine hK.out _ _ ⟨(blk_cell BK362.out 0).trans rfl, (blk_cell BK362.out 1).trans rfl, (blk_cell BK362.out 2).trans rfl, (blk_cell BK362.out 3).trans rfl, (blk_cell BK362.out 4).trans rfl⟩ (fun hHeld => ?_)
        clear hK K
        refine norm_ (a' := ?_) ?_ ?_
        rotate_left
        ·show Act.put _ (some 48) _ = _
         simp only [Act.put, List.setIfInBounds_toArray, List.set_cons_zero, List.set_cons_succ, i64_w, i32_w]
         rfl
        refine pure_ (i := 18) (N := some 6) (v := ?_) (a' := ?_) #[true, true, true, true, true, true, true, true, true, true, true, true, true, true, true, true, true, true, true] rfl rfl (any_of HT_.out (by kernel_rfl)) (fun _ _ _ h => h) (Or.inl ⟨by rfl, ?_⟩) ?_ ?_
        rotate_left
        ·intro w'
         go_simp
         with_reducible rfl
        rotate_left
        ·simp only [Act.put, List.setIfInBounds_toArray, List.set_cons_zero, List.set_cons_succ, i64_w, i32_w]
         rfl
        refine done_ (done_of HT_.out (by kernel_rfl)) ?_
        try go_wp2
        go_roundg k1
        case measure => have := HK1.out; omega
        case rel => exact ⟨(y371), (wrap64 (x7_1 + 1)), (by first | rfl | (simp; done) | (simp [*]; done)), H', ⟨by have := HK1.out; omega⟩, ⟨by (with_reducible repeat (first | apply Kd.R_alloc | apply Kd.R_drewN | apply Kd.R_drew)); exact HO373.out⟩, ⟨by (with_reducible repeat (first | refine blk_drewN ?_ _ | refine blk_drew ?_ | refine blk_alloc ?_ _)); exact BK362.out⟩, ⟨by repeat (first | (with_reducible first | exact HB.out | apply below_alloc | apply pw_below_drewN | apply below_drew1 | refine below_set ?_ GE362.out) | exact HB.out)⟩⟩
       ·rw [if_neg c23] at H
        exact absurd H (by simp)
     ·rw [if_neg c13] at H
      have c13b0 : decide (x7_1 < (l0_0.length : Int)) = false := decide_eq_false c13
      clear c13
      have H' := Aside0.mk H
      clear H
      have hcz27_0 : wr.cell? ⟨gb362, 0, none⟩ = some (.slice A0_0 l0_0.length c0_0) := (blk_cell BK362.out 0).trans rfl
      have hcz27_1 : wr.cell? ⟨gb362, 1, none⟩ = some (.slice A0_1 l0_1.length c0_1) := (blk_cell BK362.out 1).trans rfl
      have hcz27_2 : wr.cell? ⟨gb362, 2, none⟩ = some (.slice A0_2 l0_2.length c0_2) := (blk_cell BK362.out 2).trans rfl
      have hcz27_3 : wr.cell? ⟨gb362, 3, none⟩ = some (.slice A0_3 l0_3.length c0_3) := (blk_cell BK362.out 3).trans rfl
      have hcz27_4 : wr.cell? ⟨gb362, 4, none⟩ = some (.bool a0_4) := (blk_cell BK362.out 4).trans rfl
      have hfz27_0 := blk_frozen BK362.out 0
      have hfz27_1 := blk_frozen BK362.out 1
      have hfz27_2 := blk_frozen BK362.out 2
      have hfz27_3 := blk_frozen BK362.out 3
      have hfz27_4 := blk_frozen BK362.out 4
      go_wp2
      go_loopg [6, 8] k1 (fun kq v6 v8 w' => ∃ (x6_2 : List Bool) (x8_2 : Int), v8 = .int .i64 x8_2 ∧ Aside0 (caesuraref11_Match.l1 kq l1 x6_2 x8_2 l0_0 l0_1 l0_2 l0_3 a0_4 = some r) ∧ Aside0 (kq ≤ k1) ∧ Aside0 (Kd.R Kd.bool 4 w' w.heap.size (fun _ => True) v6 x6_2) ∧ Aside0 (w'.heap[gb362]? = some (.cells #[(.slice A0_0 l0_0.length c0_0), (.slice A0_1 l0_1.length c0_1), (.slice A0_2 l0_2.length c0_2), (.slice A0_3 l0_3.length c0_3), .bool a0_4] 42 (0, 0))) ∧ Aside0 (Below w.heap.size w w'))
      case atStart => exact ⟨(x6_1), (1), (by first | rfl | (simp; done) | (simp [*]; done)), H', ⟨Nat.le_refl _⟩, ⟨by (with_reducible repeat (first | apply Kd.R_alloc | apply Kd.R_drewN | apply Kd.R_drew)); exact HO_6.out⟩, ⟨by (with_reducible repeat (first | refine blk_drewN ?_ _ | refine blk_drew ?_ | refine blk_alloc ?_ _)); exact BK362.out⟩, ⟨by repeat (first | (with_reducible first | exact HB.out | apply below_alloc | apply pw_below_drewN | apply below_drew1 | refine below_set ?_ GE362.out) | exact HB.out)⟩⟩
      case round =>
       clear H'
       try clear c1
       try clear c2
       try clear p2
       try clear c3
       try clear p3
       try clear q3
       try clear hx3
       try clear qi3
       try clear c4
       try clear c5
       try clear c5b0
       try clear c5b1
       try clear c5b2
       try clear p6
       try clear c8
       try clear c13
       try clear c13b0
       try clear c15
       try clear c16
       try clear c16b0
       try clear c17
       try clear c17b0
       try clear c17b1
       try clear c19
       try clear c23
       try clear hcz11_0
       try clear hcz11_1
       try clear hcz11_2
       try clear hcz11_3
       try clear hcz11_4
       try clear hcz20_0
       try clear hcz20_1
       try clear hcz20_2
       try clear hcz20_3
       try clear hcz20_4
       try clear hcz24_0
       try clear hcz24_1
       try clear hcz24_2
       try clear hcz24_3
       try clear hcz24_4
       try clear hcz27_0
       try clear hcz27_1
       try clear hcz27_2
       try clear hcz27_3
       try clear hcz27_4
       try clear hcz7_0
       try clear hcz7_1
       try clear hcz7_2
       try clear hcz7_3
       try clear hcz7_4
       try clear hcz9_0
       try clear hcz9_1
       try clear hcz9_2
       try clear hcz9_3
       try clear hcz9_4
       try clear hfz11_0
       try clear hfz11_1
       try clear hfz11_2
       try clear hfz11_3
       try clear hfz11_4
       try clear hfz20_0
       try clear hfz20_1
       try clear hfz20_2
       try clear hfz20_3
       try clear hfz20_4
       try clear hfz24_0
       try clear hfz24_1
       try clear hfz24_2
       try clear hfz24_3
       try clear hfz24_4
       try clear hfz27_0
       try clear hfz27_1
       try clear hfz27_2
       try clear hfz27_3
       try clear hfz27_4
       try clear hfz7_0
       try clear hfz7_1
       try clear hfz7_2
       try clear hfz7_3
       try clear hfz7_4
       try clear hfz9_0
       try clear hfz9_1
       try clear hfz9_2
       try clear hfz9_3
       try clear hfz9_4
       try clear hx365_0
       try clear hx366_0
       try clear p2
       try clear p365
       try clear p366
       try clear q365
       try clear q366
       obtain ⟨x6_2, x8_2, rfl, HA, HK2, HO_6, BK362, HB⟩ := hrel
       cases gk with
       | zero => exact absurd HA.out (by simp [caesuraref11_Match.l1])
       | succ k2 =>
        have H := HA.out
        clear HA
        simp only [caesuraref11_Match.l1] at H
        by_cases c28 : x8_2 < (l1.length : Int)
        ·rw [if_pos c28] at H
         have c28b0 : decide (x8_2 < (l1.length : Int)) = true := decide_eq_true c28
         clear c28
         have H' := Aside0.mk H
         clear H
         go_wp2
         go_loopg [9, 10] k2 (fun kq v9 v10 w' => ∃ (x9_3 : List Bool) (x10_3 : Int), v10 = .int .i64 x10_3 ∧ Aside0 (caesuraref11_Match.l2 kq l1 x6_2 x8_2 x9_3 x10_3 l0_0 l0_1 l0_2 l0_3 a0_4 = some r) ∧ Aside0 (kq ≤ k2) ∧ Aside0 (Kd.R Kd.bool 4 w' w.heap.size (fun k_ => some k_ ≠ (v9 : Value).ownBlock) u6 x6_2) ∧ Aside0 (Kd.R Kd.bool 4 w' w.heap.size (fun k_ => some k_ ≠ (u6 : Value).ownBlock) v9 x9_3) ∧ Aside0 (w'.heap[gb362]? = some (.cells #[(.slice A0_0 l0_0.length c0_0), (.slice A0_1 l0_1.length c0_1), (.slice A0_2 l0_2.length c0_2), (.slice A0_3 l0_3.length c0_3), .bool a0_4] 42 (0, 0))) ∧ Aside0 (Below w.heap.size w w'))
         case atStart => exact ⟨(([] : List Bool)), (0), (by first | rfl | (simp; done) | (simp [*]; done)), H', ⟨Nat.le_refl _⟩, ⟨by (with_reducible repeat (first | apply Kd.R_alloc | apply Kd.R_drewN | apply Kd.R_drew)); exact Kd.R_mono HO_6.out (fun _ hk => (by simp [Value.ownBlock]))⟩, ⟨by first | exact Kd.R_nil _ _ _ _ _ | exact Kd.N_nil _ _ _ _ _ | exact Kd.V_nil _ _ _ _ _ | exact Kd.Q_nil _ _ _ _ _ | exact Kd.S_nil _ _ _ _ _⟩, ⟨by (with_reducible repeat (first | refine blk_drewN ?_ _ | refine blk_drew ?_ | refine blk_alloc ?_ _)); exact BK362.out⟩, ⟨by repeat (first | (with_reducible first | exact HB.out | apply below_alloc | apply pw_below_drewN | apply below_drew1 | refine below_set ?_ GE362.out) | exact HB.out)⟩⟩
         case round =>
          clear H'
          try clear c1
          try clear c2
          try clear p2
          try clear c3
          try clear p3
          try clear q3
          try clear hx3
          try clear qi3
          try clear c4
          try clear c5
          try clear c5b0
          try clear c5b1
          try clear c5b2
          try clear p6
          try clear c8
          try clear c13
          try clear c13b0
          try clear c15
          try clear c16
          try clear c16b0
          try clear c17
          try clear c17b0
          try clear c17b1
          try clear c19
          try clear c23
          try clear c28
          try clear c28b0
          try clear hcz11_0
          try clear hcz11_1
          try clear hcz11_2
          try clear hcz11_3
          try clear hcz11_4
          try clear hcz20_0
          try clear hcz20_1
          try clear hcz20_2
          try clear hcz20_3
          try clear hcz20_4
          try clear hcz24_0
          try clear hcz24_1
          try clear hcz24_2
          try clear hcz24_3
          try clear hcz24_4
          try clear hcz27_0
          try clear hcz27_1
          try clear hcz27_2
          try clear hcz27_3
          try clear hcz27_4
          try clear hcz7_0
          try clear hcz7_1
          try clear hcz7_2
          try clear hcz7_3
          try clear hcz7_4
          try clear hcz9_0
          try clear hcz9_1
          try clear hcz9_2
          try clear hcz9_3
          try clear hcz9_4
          try clear hfz11_0
          try clear hfz11_1
          try clear hfz11_2
          try clear hfz11_3
          try clear hfz11_4
          try clear hfz20_0
          try clear hfz20_1
          try clear hfz20_2
          try clear hfz20_3
          try clear hfz20_4
          try clear hfz24_0
          try clear hfz24_1
          try clear hfz24_2
          try clear hfz24_3
          try clear hfz24_4
          try clear hfz27_0
          try clear hfz27_1
          try clear hfz27_2
          try clear hfz27_3
          try clear hfz27_4
          try clear hfz7_0
          try clear hfz7_1
          try clear hfz7_2
          try clear hfz7_3
          try clear hfz7_4
          try clear hfz9_0
          try clear hfz9_1
          try clear hfz9_2
          try clear hfz9_3
          try clear hfz9_4
          try clear hx365_0
          try clear hx366_0
          try clear p2
          try clear p3
          try clear p365
          try clear p366
          try clear p6
          try clear q3
          try clear q365
          try clear q366
          obtain ⟨x9_3, x10_3, rfl, HA, HK3, HO_6, HO_9, BK362, HB⟩ := hrel
          cases gk with
          | zero => exact absurd HA.out (by simp [caesuraref11_Match.l2])
          | succ k3 =>
           have H := HA.out
           clear HA
           simp only [caesuraref11_Match.l2] at H
           by_cases c29 : x10_3 < (l0_0.length : Int)
           ·rw [if_pos c29] at H
            have c29b0 : decide (x10_3 < (l0_0.length : Int)) = true := decide_eq_true c29
            clear c29
            by_cases c30 : x9_3.length < 140737488355328
            ·rw [if_pos c30] at H
             have LMc30 := Aside0.mk c30
             clear c30
             obtain ⟨y374, hy374⟩ : ∃ y_ : List Bool, y_ = (x9_3 ++ [false]) := ⟨_, rfl⟩
             replace H : (caesuraref11_Match.l2 k3 l1 x6_2 x8_2 y374 (wrap64 (x10_3 + 1)) l0_0 l0_1 l0_2 l0_3 a0_4) = some r := by first | (rw [hy374]; with_reducible exact H) | (have H2_ := (Option.bind_some _ _).symm.trans H; rw [hy374]; with_reducible exact H2_) | (have H2_ := (Option.bind_some _ _).symm.trans H; with_reducible exact H2_) | with_reducible exact H | (rw [hy374]; exact H) | exact H
             have Ny374 := Aside0.mk hy374
             clear hy374
             have H' := Aside0.mk H
             clear H
             have hcz31_0 : wr.cell? ⟨gb362, 0, none⟩ = some (.slice A0_0 l0_0.length c0_0) := (blk_cell BK362.out 0).trans rfl
             have hcz31_1 : wr.cell? ⟨gb362, 1, none⟩ = some (.slice A0_1 l0_1.length c0_1) := (blk_cell BK362.out 1).trans rfl
             have hcz31_2 : wr.cell? ⟨gb362, 2, none⟩ = some (.slice A0_2 l0_2.length c0_2) := (blk_cell BK362.out 2).trans rfl
             have hcz31_3 : wr.cell? ⟨gb362, 3, none⟩ = some (.slice A0_3 l0_3.length c0_3) := (blk_cell BK362.out 3).trans rfl
             have hcz31_4 : wr.cell? ⟨gb362, 4, none⟩ = some (.bool a0_4) := (blk_cell BK362.out 4).trans rfl
             have hfz31_0 := blk_frozen BK362.out 0
             have hfz31_1 := blk_frozen BK362.out 1
             have hfz31_2 := blk_frozen BK362.out 2
             have hfz31_3 := blk_frozen BK362.out 3
             have hfz31_4 := blk_frozen BK362.out 4
             go_wp2_with (first | ((with_reducible refine gate_builtin (b := .append) (xs := #[.tmp 62, .tmp 63]) rfl ?_); (try (refine gate_guard (by rfl) ?_; dsimp only)); at_builtin; refine Kd.R_append Kd.bool (w0 := w) w.heap.size rfl (.tmp 62) (.tmp 63) 58 4 (.bool false) 1 rfl Tryd.underlying58 info4 rfl (by decide) (by omega) u9 x9_3 false [.bool false] (fun k_ => some k_ ≠ (u6 : Value).ownBlock) (fun _ => False) rfl rfl ?aP (fun _ hk => hk.elim) ?aF ?aO ?aB ?aS ?aL ?_; (case aP => exact rfl); (case aB => exact (by repeat (first | (with_reducible first | exact HB.out | apply below_alloc | apply pw_below_drewN | apply below_drew1 | refine below_set ?_ GE362.out) | exact HB.out))); (case aF => exact (fun k_ hk => Kd.fresh' (Kd.R_lt (by (with_reducible repeat (first | apply Kd.R_alloc | apply Kd.R_drewN | apply Kd.R_drew)); exact HO_6.out)) k_ hk)); (case aO => exact (by (with_reducible repeat (first | apply Kd.R_alloc | apply Kd.R_drewN | apply Kd.R_drew)); exact HO_9.out)); (case aS => exact (below_size (by repeat (first | (with_reducible first | exact HB.out | apply below_alloc | apply pw_below_drewN | apply below_drew1 | refine below_set ?_ GE362.out) | exact HB.out)))); (case aL => have := LMc30.out; omega); intro v375 w32 ho hb hg hat; rw [← Ny374.out] at ho; have n0_ := Aside0.mk (Kd.R_after (ok := (fun _ => True)) (by (with_reducible repeat (first | apply Kd.R_alloc | apply Kd.R_drewN | apply Kd.R_drew)); exact Kd.R_mono HO_6.out (fun _ hk => ⟨trivial, hk⟩)) hg hat); have n1_ := Aside0.mk (blk_grown (g := gb362) (o := .cells #[.slice A0_0 l0_0.length c0_0, .slice A0_1 l0_1.length c0_1, .slice A0_2 l0_2.length c0_2, .slice A0_3 l0_3.length c0_3, .bool a0_4] 42 (0, 0)) (by (with_reducible repeat (first | refine blk_drewN ?_ _ | refine blk_drew ?_ | refine blk_alloc ?_ _)); exact BK362.out) hg (Kd.R_ne HO_9.out BK362.out (by decide))); have n2_ := Aside0.mk (hb); have n3_ := Aside0.mk (ho); clear HO_6; clear BK362; clear HB; clear HO_9; have HO_6 := n0_; have BK362 := n1_; have HB := n2_; have HO376 := n3_; clear n0_ n1_ n2_ n3_; clear ho hb hg hat))
             go_roundg k3
             case measure => have := HK1.out; have := HK2.out; have := HK3.out; omega
             case rel => exact ⟨(y374), (wrap64 (x10_3 + 1)), (by first | rfl | (simp; done) | (simp [*]; done)), H', ⟨by have := HK1.out; have := HK2.out; have := HK3.out; omega⟩, ⟨by (with_reducible repeat (first | apply Kd.R_alloc | apply Kd.R_drewN | apply Kd.R_drew)); exact Kd.R_mono HO_6.out (fun _ hk => hk.2)⟩, ⟨by (with_reducible repeat (first | apply Kd.R_alloc | apply Kd.R_drewN | apply Kd.R_drew)); exact HO376.out⟩, ⟨by (with_reducible repeat (first | refine blk_drewN ?_ _ | refine blk_drew ?_ | refine blk_alloc ?_ _)); exact BK362.out⟩, ⟨by repeat (first | (with_reducible first | exact HB.out | apply below_alloc | apply pw_below_drewN | apply below_drew1 | refine below_set ?_ GE362.out) | exact HB.out)⟩⟩
            ·rw [if_neg c30] at H
             exact absurd H (by simp)
           ·rw [if_neg c29] at H
            have c29b0 : decide (x10_3 < (l0_0.length : Int)) = false := decide_eq_false c29
            clear c29
            have H' := Aside0.mk H
            clear H
            have hcz33_0 : wr.cell? ⟨gb362, 0, none⟩ = some (.slice A0_0 l0_0.length c0_0) := (blk_cell BK362.out 0).trans rfl
            have hcz33_1 : wr.cell? ⟨gb362, 1, none⟩ = some (.slice A0_1 l0_1.length c0_1) := (blk_cell BK362.out 1).trans rfl
            have hcz33_2 : wr.cell? ⟨gb362, 2, none⟩ = some (.slice A0_2 l0_2.length c0_2) := (blk_cell BK362.out 2).trans rfl
            have hcz33_3 : wr.cell? ⟨gb362, 3, none⟩ = some (.slice A0_3 l0_3.length c0_3) := (blk_cell BK362.out 3).trans rfl
            have hcz33_4 : wr.cell? ⟨gb362, 4, none⟩ = some (.bool a0_4) := (blk_cell BK362.out 4).trans rfl
            have hfz33_0 := blk_frozen BK362.out 0
            have hfz33_1 := blk_frozen BK362.out 1
            have hfz33_2 := blk_frozen BK362.out 2
            have hfz33_3 := blk_frozen BK362.out 3
            have hfz33_4 := blk_frozen BK362.out 4
            go_wp2
            go_loopg [11] k3 (fun kq v11 w' => ∃ (x9_4 : List Bool) (x11_4 : Int), v11 = .int .i64 x11_4 ∧ Aside0 (caesuraref11_Match.l3 kq l1 x6_2 x8_2 x9_4 x11_4 l0_0 l0_1 l0_2 l0_3 a0_4 = some r) ∧ Aside0 (kq ≤ k3) ∧ Aside0 (Kd.R Kd.bool 4 w' w.heap.size (fun k_ => some k_ ≠ (u9 : Value).ownBlock) u6 x6_2) ∧ Aside0 (Kd.R Kd.bool 4 w' w.heap.size (fun k_ => some k_ ≠ (u6 : Value).ownBlock) u9 x9_4) ∧ Aside0 (w'.heap[gb362]? = some (.cells #[(.slice A0_0 l0_0.length c0_0), (.slice A0_1 l0_1.length c0_1), (.slice A0_2 l0_2.length c0_2), (.slice A0_3 l0_3.length c0_3), .bool a0_4] 42 (0, 0))) ∧ Aside0 (Below w.heap.size w w'))
            case atStart => exact ⟨(x9_3), (0), (by first | rfl | (simp; done) | (simp [*]; done)), H', ⟨Nat.le_refl _⟩, ⟨by (with_reducible repeat (first | apply Kd.R_alloc | apply Kd.R_drewN | apply Kd.R_drew)); exact HO_6.out⟩, ⟨by (with_reducible repeat (first | apply Kd.R_alloc | apply Kd.R_drewN | apply Kd.R_drew)); exact HO_9.out⟩, ⟨by (with_reducible repeat (first | refine blk_drewN ?_ _ | refine blk_drew ?_ | refine blk_alloc ?_ _)); exact BK362.out⟩, ⟨by repeat (first | (with_reducible first | exact HB.out | apply below_alloc | apply pw_below_drewN | apply below_drew1 | refine below_set ?_ GE362.out) | exact HB.out)⟩⟩
            case round =>
             clear H'
             try clear c1
             try clear c2
             try clear p2
             try clear c3
             try clear p3
             try clear q3
             try clear hx3
             try clear qi3
             try clear c4
             try clear c5
             try clear c5b0
             try clear c5b1
             try clear c5b2
             try clear p6
             try clear c8
             try clear c13
             try clear c13b0
             try clear c15
             try clear c16
             try clear c16b0
             try clear c17
             try clear c17b0
             try clear c17b1
             try clear c19
             try clear c23
             try clear c28
             try clear c28b0
             try clear c29
             try clear c29b0
             try clear c30
             try clear hcz11_0
             try clear hcz11_1
             try clear hcz11_2
             try clear hcz11_3
             try clear hcz11_4
             try clear hcz20_0
             try clear hcz20_1
             try clear hcz20_2
             try clear hcz20_3
             try clear hcz20_4
             try clear hcz24_0
             try clear hcz24_1
             try clear hcz24_2
             try clear hcz24_3
             try clear hcz24_4
             try clear hcz27_0
             try clear hcz27_1
             try clear hcz27_2
             try clear hcz27_3
             try clear hcz27_4
             try clear hcz31_0
             try clear hcz31_1
             try clear hcz31_2
             try clear hcz31_3
             try clear hcz31_4
             try clear hcz33_0
             try clear hcz33_1
             try clear hcz33_2
             try clear hcz33_3
             try clear hcz33_4
             try clear hcz7_0
             try clear hcz7_1
             try clear hcz7_2
             try clear hcz7_3
             try clear hcz7_4
             try clear hcz9_0
             try clear hcz9_1
             try clear hcz9_2
             try clear hcz9_3
             try clear hcz9_4
             try clear hfz11_0
             try clear hfz11_1
             try clear hfz11_2
             try clear hfz11_3
             try clear hfz11_4
             try clear hfz20_0
             try clear hfz20_1
             try clear hfz20_2
             try clear hfz20_3
             try clear hfz20_4
             try clear hfz24_0
             try clear hfz24_1
             try clear hfz24_2
             try clear hfz24_3
             try clear hfz24_4
             try clear hfz27_0
             try clear hfz27_1
             try clear hfz27_2
             try clear hfz27_3
             try clear hfz27_4
             try clear hfz31_0
             try clear hfz31_1
             try clear hfz31_2
             try clear hfz31_3
             try clear hfz31_4
             try clear hfz33_0
             try clear hfz33_1
             try clear hfz33_2
             try clear hfz33_3
             try clear hfz33_4
             try clear hfz7_0
             try clear hfz7_1
             try clear hfz7_2
             try clear hfz7_3
             try clear hfz7_4
             try clear hfz9_0
             try clear hfz9_1
             try clear hfz9_2
             try clear hfz9_3
             try clear hfz9_4
             try clear hx365_0
             try clear hx366_0
             try clear p2
             try clear p3
             try clear p365
             try clear p366
             try clear p6
             try clear q3
             try clear q365
             try clear q366
             obtain ⟨x9_4, x11_4, rfl, HA, HK4, HO_6, HO_9, BK362, HB⟩ := hrel
             cases gk with
             | zero => exact absurd HA.out (by simp [caesuraref11_Match.l3])
             | succ k4 =>
              have H := HA.out
              clear HA
              simp only [caesuraref11_Match.l3] at H
              by_cases c34 : x11_4 < (l0_0.length : Int)
              ·rw [if_pos c34] at H
               have c34b0 : decide (x11_4 < (l0_0.length : Int)) = true := decide_eq_true c34
               clear c34
               have H' := Aside0.mk H
               clear H
               have hcz35_0 : wr.cell? ⟨gb362, 0, none⟩ = some (.slice A0_0 l0_0.length c0_0) := (blk_cell BK362.out 0).trans rfl
               have hcz35_1 : wr.cell? ⟨gb362, 1, none⟩ = some (.slice A0_1 l0_1.length c0_1) := (blk_cell BK362.out 1).trans rfl
               have hcz35_2 : wr.cell? ⟨gb362, 2, none⟩ = some (.slice A0_2 l0_2.length c0_2) := (blk_cell BK362.out 2).trans rfl
               have hcz35_3 : wr.cell? ⟨gb362, 3, none⟩ = some (.slice A0_3 l0_3.length c0_3) := (blk_cell BK362.out 3).trans rfl
               have hcz35_4 : wr.cell? ⟨gb362, 4, none⟩ = some (.bool a0_4) := (blk_cell BK362.out 4).trans rfl
               have hfz35_0 := blk_frozen BK362.out 0
               have hfz35_1 := blk_frozen BK362.out 1
               have hfz35_2 := blk_frozen BK362.out 2
               have hfz35_3 := blk_frozen BK362.out 3
               have hfz35_4 := blk_frozen BK362.out 4
               go_wp2
               go_loopg [12] k4 (fun kq v12 w' => ∃ (x9_5 : List Bool) (x12_5 : Int), v12 = .int .i64 x12_5 ∧ Aside0 (caesuraref11_Match.l4 kq l1 x6_2 x8_2 x9_5 x11_4 x12_5 l0_0 l0_1 l0_2 l0_3 a0_4 = some r) ∧ Aside0 (kq ≤ k4) ∧ Aside0 (Kd.R Kd.bool 4 w' w.heap.size (fun k_ => some k_ ≠ (u9 : Value).ownBlock) u6 x6_2) ∧ Aside0 (Kd.R Kd.bool 4 w' w.heap.size (fun k_ => some k_ ≠ (u6 : Value).ownBlock) u9 x9_5) ∧ Aside0 (w'.heap[gb362]? = some (.cells #[(.slice A0_0 l0_0.length c0_0), (.slice A0_1 l0_1.length c0_1), (.slice A0_2 l0_2.length c0_2), (.slice A0_3 l0_3.length c0_3), .bool a0_4] 42 (0, 0))) ∧ Aside0 (Below w.heap.size w w'))
               case atStart => exact ⟨(x9_4), (0), (by first | rfl | (simp; done) | (simp [*]; done)), H', ⟨Nat.le_refl _⟩, ⟨by (with_reducible repeat (first | apply Kd.R_alloc | apply Kd.R_drewN | apply Kd.R_drew)); exact HO_6.out⟩, ⟨by (with_reducible repeat (first | apply Kd.R_alloc | apply Kd.R_drewN | apply Kd.R_drew)); exact HO_9.out⟩, ⟨by (with_reducible repeat (first | refine blk_drewN ?_ _ | refine blk_drew ?_ | refine blk_alloc ?_ _)); exact BK362.out⟩, ⟨by repeat (first | (with_reducible first | exact HB.out | apply below_alloc | apply pw_below_drewN | apply below_drew1 | refine below_set ?_ GE362.out) | exact HB.out)⟩⟩
               case round =>
                clear H'
                try clear c1
                try clear c2
                try clear p2
                try clear c3
                try clear p3
                try clear q3
                try clear hx3
                try clear qi3
                try clear c4
                try clear c5
                try clear c5b0
                try clear c5b1
                try clear c5b2
                try clear p6
                try clear c8
                try clear c13
                try clear c13b0
                try clear c15
                try clear c16
                try clear c16b0
                try clear c17
                try clear c17b0
                try clear c17b1
                try clear c19
                try clear c23
                try clear c28
                try clear c28b0
                try clear c29
                try clear c29b0
                try clear c30
                try clear c34
                try clear c34b0
                try clear hcz11_0
                try clear hcz11_1
                try clear hcz11_2
                try clear hcz11_3
                try clear hcz11_4
                try clear hcz20_0
                try clear hcz20_1
                try clear hcz20_2
                try clear hcz20_3
                try clear hcz20_4
                try clear hcz24_0
                try clear hcz24_1
                try clear hcz24_2
                try clear hcz24_3
                try clear hcz24_4
                try clear hcz27_0
                try clear hcz27_1
                try clear hcz27_2
                try clear hcz27_3
                try clear hcz27_4
                try clear hcz31_0
                try clear hcz31_1
                try clear hcz31_2
                try clear hcz31_3
                try clear hcz31_4
                try clear hcz33_0
                try clear hcz33_1
                try clear hcz33_2
                try clear hcz33_3
                try clear hcz33_4
                try clear hcz35_0
                try clear hcz35_1
                try clear hcz35_2
                try clear hcz35_3
                try clear hcz35_4
                try clear hcz7_0
                try clear hcz7_1
                try clear hcz7_2
                try clear hcz7_3
                try clear hcz7_4
                try clear hcz9_0
                try clear hcz9_1
                try clear hcz9_2
                try clear hcz9_3
                try clear hcz9_4
                try clear hfz11_0
                try clear hfz11_1
                try clear hfz11_2
                try clear hfz11_3
                try clear hfz11_4
                try clear hfz20_0
                try clear hfz20_1
                try clear hfz20_2
                try clear hfz20_3
                try clear hfz20_4
                try clear hfz24_0
                try clear hfz24_1
                try clear hfz24_2
                try clear hfz24_3
                try clear hfz24_4
                try clear hfz27_0
                try clear hfz27_1
                try clear hfz27_2
                try clear hfz27_3
                try clear hfz27_4
                try clear hfz31_0
                try clear hfz31_1
                try clear hfz31_2
                try clear hfz31_3
                try clear hfz31_4
                try clear hfz33_0
                try clear hfz33_1
                try clear hfz33_2
                try clear hfz33_3
                try clear hfz33_4
                try clear hfz35_0
                try clear hfz35_1
                try clear hfz35_2
                try clear hfz35_3
                try clear hfz35_4
                try clear hfz7_0
                try clear hfz7_1
                try clear hfz7_2
                try clear hfz7_3
                try clear hfz7_4
                try clear hfz9_0
                try clear hfz9_1
                try clear hfz9_2
                try clear hfz9_3
                try clear hfz9_4
                try clear hx365_0
                try clear hx366_0
                try clear p2
                try clear p3
                try clear p365
                try clear p366
                try clear p6
                try clear q3
                try clear q365
                try clear q366
                obtain ⟨x9_5, x12_5, rfl, HA, HK5, HO_6, HO_9, BK362, HB⟩ := hrel
                cases gk with
                | zero => exact absurd HA.out (by simp [caesuraref11_Match.l4])
                | succ k5 =>
                 have H := HA.out
                 clear HA
                 simp only [caesuraref11_Match.l4] at H
                 by_cases c36 : 0 ≤ x11_4
                 ·rw [if_pos c36] at H
                  have c36b0 : decide (0 ≤ x11_4) = true := decide_eq_true c36
                  clear c36
                  by_cases c37 : x11_4 < (x6_2.length : Int)
                  ·rw [if_pos c37] at H
                   have c37b0 : decide (x11_4 < (x6_2.length : Int)) = true := decide_eq_true c37
                   clear c37
                   obtain ⟨bq38, hbq38⟩ : ∃ b_ : Bool, b_ = (rdOf false x6_2 x11_4) := ⟨_, rfl⟩
                   replace H : (if bq38 = true then (if x11_4 < (l0_3.length : Int) then (if x12_5 < ((rd_L1 l0_3 x11_4).length : Int) then (if 0 ≤ x12_5 then (if 0 ≤ (rd (rd_L1 l0_3 x11_4) x12_5) then (if (rd (rd_L1 l0_3 x11_4) x12_5) < (x9_5.length : Int) then (if rdOf false x9_5 (rd (rd_L1 l0_3 x11_4) x12_5) = true then (caesuraref11_Match.l4 k5 l1 x6_2 x8_2 (x9_5.set ((rd (rd_L1 l0_3 x11_4) x12_5) : Int).toNat true) x11_4 (wrap64 (x12_5 + 1)) l0_0 l0_1 l0_2 l0_3 a0_4) else (if (rd (rd_L1 l0_3 x11_4) x12_5) < (l0_0.length : Int) then (if 0 ≤ x8_2 then (if x8_2 < (l1.length : Int) then ((caesuraref11_has.f k5 (rd_L1 l0_0 (rd (rd_L1 l0_3 x11_4) x12_5)) (rd l1 x8_2)).bind fun t385 => (caesuraref11_Match.l4 k5 l1 x6_2 x8_2 (x9_5.set ((rd (rd_L1 l0_3 x11_4) x12_5) : Int).toNat t385) x11_4 (wrap64 (x12_5 + 1)) l0_0 l0_1 l0_2 l0_3 a0_4)) else (none)) else (none)) else (none))) else (none)) else (none)) else (none)) else (caesuraref11_Match.l3 k5 l1 x6_2 x8_2 x9_5 (wrap64 (x11_4 + 1)) l0_0 l0_1 l0_2 l0_3 a0_4)) else (none)) else (caesuraref11_Match.l3 k5 l1 x6_2 x8_2 x9_5 (wrap64 (x11_4 + 1)) l0_0 l0_1 l0_2 l0_3 a0_4)) = some r := by rw [← hbq38] at H; exact H
                   have Nbq38 := Aside0.mk hbq38
                   clear hbq38
                   by_cases c39 : bq38 = true
                   ·subst c39
                    have H1 : (if x11_4 < (l0_3.length : Int) then (if x12_5 < ((rd_L1 l0_3 x11_4).length : Int) then (if 0 ≤ x12_5 then (if 0 ≤ (rd (rd_L1 l0_3 x11_4) x12_5) then (if (rd (rd_L1 l0_3 x11_4) x12_5) < (x9_5.length : Int) then (if rdOf false x9_5 (rd (rd_L1 l0_3 x11_4) x12_5) = true then (caesuraref11_Match.l4 k5 l1 x6_2 x8_2 (x9_5.set ((rd (rd_L1 l0_3 x11_4) x12_5) : Int).toNat true) x11_4 (wrap64 (x12_5 + 1)) l0_0 l0_1 l0_2 l0_3 a0_4) else (if (rd (rd_L1 l0_3 x11_4) x12_5) < (l0_0.length : Int) then (if 0 ≤ x8_2 then (if x8_2 < (l1.length : Int) then ((caesuraref11_has.f k5 (rd_L1 l0_0 (rd (rd_L1 l0_3 x11_4) x12_5)) (rd l1 x8_2)).bind fun t385 => (caesuraref11_Match.l4 k5 l1 x6_2 x8_2 (x9_5.set ((rd (rd_L1 l0_3 x11_4) x12_5) : Int).toNat t385) x11_4 (wrap64 (x12_5 + 1)) l0_0 l0_1 l0_2 l0_3 a0_4)) else (none)) else (none)) else (none))) else (none)) else (none)) else (none)) else (caesuraref11_Match.l3 k5 l1 x6_2 x8_2 x9_5 (wrap64 (x11_4 + 1)) l0_0 l0_1 l0_2 l0_3 a0_4)) else (none)) = some r := by rw [if_pos rfl] at H; exact H
                    clear H
                    have H := H1
                    clear H1
                    by_cases c40 : x11_4 < (l0_3.length : Int)
                    ·rw [if_pos c40] at H
                     have c40b0 : decide (x11_4 < (l0_3.length : Int)) = true := decide_eq_true c40
                     clear c40
                     by_cases c41 : x12_5 < ((rd_L1 l0_3 x11_4).length : Int)
                     ·rw [if_pos c41] at H
                      have c41b0 : decide (x12_5 < ((rd_L1 l0_3 x11_4).length : Int)) = true := decide_eq_true c41
                      clear c41
                      by_cases c42 : 0 ≤ x12_5
                      ·rw [if_pos c42] at H
                       have c42b0 : decide (0 ≤ x12_5) = true := decide_eq_true c42
                       clear c42
                       by_cases c43 : 0 ≤ (rd (rd_L1 l0_3 x11_4) x12_5)
                       ·rw [if_pos c43] at H
                        have c43b0 : decide (0 ≤ (rd (rd_L1 l0_3 x11_4) x12_5)) = true := decide_eq_true c43
                        clear c43
                        by_cases c44 : (rd (rd_L1 l0_3 x11_4) x12_5) < (x9_5.length : Int)
                        ·rw [if_pos c44] at H
                         have c44b0 : decide ((rd (rd_L1 l0_3 x11_4) x12_5) < (x9_5.length : Int)) = true := decide_eq_true c44
                         clear c44
                         obtain ⟨bq45, hbq45⟩ : ∃ b_ : Bool, b_ = (rdOf false x9_5 (rd (rd_L1 l0_3 x11_4) x12_5)) := ⟨_, rfl⟩
                         replace H : (if bq45 = true then (caesuraref11_Match.l4 k5 l1 x6_2 x8_2 (x9_5.set ((rd (rd_L1 l0_3 x11_4) x12_5) : Int).toNat true) x11_4 (wrap64 (x12_5 + 1)) l0_0 l0_1 l0_2 l0_3 a0_4) else (if (rd (rd_L1 l0_3 x11_4) x12_5) < (l0_0.length : Int) then (if 0 ≤ x8_2 then (if x8_2 < (l1.length : Int) then ((caesuraref11_has.f k5 (rd_L1 l0_0 (rd (rd_L1 l0_3 x11_4) x12_5)) (rd l1 x8_2)).bind fun t385 => (caesuraref11_Match.l4 k5 l1 x6_2 x8_2 (x9_5.set ((rd (rd_L1 l0_3 x11_4) x12_5) : Int).toNat t385) x11_4 (wrap64 (x12_5 + 1)) l0_0 l0_1 l0_2 l0_3 a0_4)) else (none)) else (none)) else (none))) = some r := by rw [← hbq45] at H; exact H
                         have Nbq45 := Aside0.mk hbq45
                         clear hbq45
                         by_cases c46 : bq45 = true
                         ·subst c46
                          have H1 : (caesuraref11_Match.l4 k5 l1 x6_2 x8_2 (x9_5.set ((rd (rd_L1 l0_3 x11_4) x12_5) : Int).toNat true) x11_4 (wrap64 (x12_5 + 1)) l0_0 l0_1 l0_2 l0_3 a0_4) = some r := by rw [if_pos rfl] at H; exact H
                          clear H
                          have H := H1
                          clear H1
                          obtain ⟨y382, hy382⟩ : ∃ y_ : List Bool, y_ = (x9_5.set ((rd (rd_L1 l0_3 x11_4) x12_5) : Int).toNat true) := ⟨_, rfl⟩
                          replace H : (caesuraref11_Match.l4 k5 l1 x6_2 x8_2 y382 x11_4 (wrap64 (x12_5 + 1)) l0_0 l0_1 l0_2 l0_3 a0_4) = some r := by first | (rw [hy382]; with_reducible exact H) | (have H2_ := (Option.bind_some _ _).symm.trans H; rw [hy382]; with_reducible exact H2_) | (have H2_ := (Option.bind_some _ _).symm.trans H; with_reducible exact H2_) | with_reducible exact H | (rw [hy382]; exact H) | exact H
                          have Ny382 := Aside0.mk hy382
                          clear hy382
                          have H' := Aside0.mk H
                          clear H
                          obtain ⟨Ao48, co48, eo48⟩ := Kd.R_slice HO_6.out
                          subst eo48
                          have p377 : 0 ≤ (x11_4 : Int) := of_decide_eq_true (by first | (with_reducible assumption) | assumption)
                          have q377 : x11_4 < (x6_2.length : Int) := of_decide_eq_true (by first | (with_reducible assumption) | assumption)
                          obtain ⟨ad377, e377, hx377_0⟩ := Kd.at_bool (Kd.R_reads' HO_6.out).2.2 x11_4 p377 q377
                          (try rw [← Nbq38.out] at hx377_0)
                          (try rw [← Nbq45.out] at hx377_0)
                          cases e377
                          replace p377 := eq_true p377
                          replace q377 := eq_true q377
                          have hcz49_0 : wr.cell? ⟨gb362, 0, none⟩ = some (.slice A0_0 l0_0.length c0_0) := (blk_cell BK362.out 0).trans rfl
                          have hcz49_1 : wr.cell? ⟨gb362, 1, none⟩ = some (.slice A0_1 l0_1.length c0_1) := (blk_cell BK362.out 1).trans rfl
                          have hcz49_2 : wr.cell? ⟨gb362, 2, none⟩ = some (.slice A0_2 l0_2.length c0_2) := (blk_cell BK362.out 2).trans rfl
                          have hcz49_3 : wr.cell? ⟨gb362, 3, none⟩ = some (.slice A0_3 l0_3.length c0_3) := (blk_cell BK362.out 3).trans rfl
                          have hcz49_4 : wr.cell? ⟨gb362, 4, none⟩ = some (.bool a0_4) := (blk_cell BK362.out 4).trans rfl
                          have hfz49_0 := blk_frozen BK362.out 0
                          have hfz49_1 := blk_frozen BK362.out 1
                          have hfz49_2 := blk_frozen BK362.out 2
                          have hfz49_3 := blk_frozen BK362.out 3
                          have hfz49_4 := blk_frozen BK362.out 4
                          have p378 : 0 ≤ (x11_4 : Int) := of_decide_eq_true (by first | (with_reducible assumption) | assumption)
                          have q378 : x11_4 < (l0_3.length : Int) := of_decide_eq_true (by first | (with_reducible assumption) | assumption)
                          obtain ⟨ad378, A378_0, c378_0, e378, hx378_0, hl378_0, hi378_0⟩ := at_L1 HR0_3.out x11_4 p378 q378
                          cases e378
                          replace hx378_0 := (HB.out.cell (World.block_lt_of_cell? w _ hx378_0)).trans hx378_0
                          have HR378_0 := Aside0.mk hi378_0
                          have HC378_0 := Aside0.mk hl378_0
                          clear hi378_0 hl378_0
                          replace p378 := eq_true p378
                          replace q378 := eq_true q378
                          have p379 : 0 ≤ (x11_4 : Int) := of_decide_eq_true (by first | (with_reducible assumption) | assumption)
                          have q379 : x11_4 < (l0_3.length : Int) := of_decide_eq_true (by first | (with_reducible assumption) | assumption)
                          obtain ⟨ad379, A379_0, c379_0, e379, hx379_0, hl379_0, hi379_0⟩ := at_L1 HR0_3.out x11_4 p379 q379
                          obtain rfl : ad378 = ad379 := (by injection e379)
                          replace hx379_0 := (HB.out.cell (World.block_lt_of_cell? w _ hx379_0)).trans hx379_0
                          have HR379_0 := Aside0.mk hi379_0
                          have HC379_0 := Aside0.mk hl379_0
                          clear hi379_0 hl379_0
                          replace p379 := eq_true p379
                          replace q379 := eq_true q379
                          have ea_ := Option.some.inj (hx378_0.symm.trans hx379_0)
                          injection ea_ with ea_ en_ ec_
                          subst ea_
                          subst ec_
                          clear en_
                          have p380 : 0 ≤ (x12_5 : Int) := of_decide_eq_true (by first | (with_reducible assumption) | assumption)
                          have q380 : x12_5 < ((rd_L1 l0_3 x11_4).length : Int) := of_decide_eq_true (by first | (with_reducible assumption) | assumption)
                          obtain ⟨ad380, e380, hx380_0⟩ := Kd.at_int HR379_0.out x12_5 p380 q380
                          cases e380
                          replace hx380_0 := (HB.out.cell (World.block_lt_of_cell? w _ hx380_0)).trans hx380_0
                          replace p380 := eq_true p380
                          replace q380 := eq_true q380
                          try go_wp2
                          have n0_ := Aside0.mk (Kd.R_drew HO_6.out)
                          have n1_ := Aside0.mk (Kd.R_drew HO_9.out)
                          have n2_ := Aside0.mk (blk_drew BK362.out)
                          have n3_ := Aside0.mk (below_drew1 HB.out)
                          clear HO_6
                          clear HO_9
                          clear BK362
                          clear HB
                          have HO_6 := n0_
                          have HO_9 := n1_
                          have BK362 := n2_
                          have HB := n3_
                          clear n0_ n1_ n2_ n3_
                          obtain ⟨Ao51, co51, eo51⟩ := Kd.R_slice HO_9.out
                          (first | subst eo51 | (injection eo51 with f1_ f2_ f3_; have f4_ := f1_.symm; have f5_ := f3_.symm; clear f1_ f2_ f3_; subst f4_; subst f5_))
                          have p381 : 0 ≤ ((rd (rd_L1 l0_3 x11_4) x12_5) : Int) := of_decide_eq_true (by first | (with_reducible assumption) | assumption)
                          have q381 : (rd (rd_L1 l0_3 x11_4) x12_5) < (x9_5.length : Int) := of_decide_eq_true (by first | (with_reducible assumption) | assumption)
                          obtain ⟨ad381, e381, hx381_0⟩ := Kd.at_bool (Kd.R_reads' HO_9.out).2.2 (rd (rd_L1 l0_3 x11_4) x12_5) p381 q381
                          (try rw [← Nbq38.out] at hx381_0)
                          (try rw [← Nbq45.out] at hx381_0)
                          cases e381
                          replace p381 := eq_true p381
                          replace q381 := eq_true q381
                          have p47 : 0 ≤ ((rd (rd_L1 l0_3 x11_4) x12_5) : Int) := of_decide_eq_true (by first | (with_reducible assumption) | assumption)
                          have q47 : ((rd (rd_L1 l0_3 x11_4) x12_5) : Int) < ((x9_5.length : Int) : Int) := of_decide_eq_true (by first | (with_reducible assumption) | assumption)
                          obtain ⟨go47, co47, eo47, gb47, gl47, cl47, HG47⟩ := Kd.R_form HO_9.out (by omega)
                          (first | cases eo47 | (injection eo47 with ea_ en_ ec_; (first | subst ea_ | (injection ea_ with ea_; subst ea_)); subst ec_; clear en_))
                          have GB47 := Aside0.mk gb47
                          have GG47 := Aside0.mk HG47
                          clear gb47 gl47 HG47
                          (first | simp only [add_plain] at hx381_0 | skip)
                          obtain ⟨hx47_0, hf47_0⟩ := Kd.R_celln false HO_9.out ((rd (rd_L1 l0_3 x11_4) x12_5) : Int) p47 q47
                          replace p47 := eq_true p47
                          replace q47 := eq_true q47
                          have HP52 := Kd.R_putn HO_9.out ((rd (rd_L1 l0_3 x11_4) x12_5) : Int) true
                          rw [← Ny382.out] at HP52
                          have HQ52 := Aside0.mk HP52
                          clear HP52
                          refine start_ (n := 20) (S := fun w' => w'.cell? ⟨go47, ((rd (rd_L1 l0_3 x11_4) x12_5)).toNat, none⟩ = some (.bool true)) (ds := [19]) #[false, false, false, false, false, false, false, false, false, false, false, false, false, false, false, false, false, false, false, false] (by kernel_rfl) rfl rfl (hx381_0) (fun hHeld => ?_); refine with_tabW caesuraref11_Match.tab26 caesuraref11_Match.bits26 (fun HT_ HW_ => ?_)
                          generalize wr.drew = w50 at HO_6 HO_9 BK362 HB GG47 HQ52 hf47_0 hx381_0 hx47_0 hHeld ⊢
                          refine pure_ (i := 0) (N := some 96) (v := ?_) (a' := ?_) #[true, false, false, false, false, false, false, false, false, false, false, false, false, false, false, false, false, false, false, false] rfl rfl (any_of HT_.out (by kernel_rfl)) (fun _ _ _ h => h) (Or.inl ⟨by rfl, ?_⟩) ?_ ?_
                          rotate_left
                          ·intro w'
                           go_simp
                           with_reducible rfl
                          rotate_left
                          ·simp only [Act.put, List.setIfInBounds_toArray, List.set_cons_zero, List.set_cons_succ, i64_w, i32_w]
                           rfl
                          refine pure_ (i := 1) (N := some 97) (v := ?_) (a' := ?_) #[true, true, false, false, false, false, false, false, false, false, false, false, false, false, false, false, false, false, false, false] rfl rfl (any_of HT_.out (by kernel_rfl)) (fun _ _ _ h => h) (Or.inl ⟨by rfl, ?_⟩) ?_ ?_
                          rotate_left
                          ·intro w'
                           go_simp
                           with_reducible rfl
                          rotate_left
                          ·simp only [Act.put, List.setIfInBounds_toArray, List.set_cons_zero, List.set_cons_succ, i64_w, i32_w]
                           rfl
                          refine pure_ (i := 2) (N := some 98) (v := ?_) (a' := ?_) #[true, true, true, false, false, false, false, false, false, false, false, false, false, false, false, false, false, false, false, false] rfl rfl (any_of HT_.out (by kernel_rfl)) (fun _ _ _ h => h) (Or.inl ⟨by rfl, ?_⟩) ?_ ?_
                          rotate_left
                          ·intro w'
                           go_simp
                           with_reducible rfl
                          rotate_left
                          ·simp only [Act.put, List.setIfInBounds_toArray, List.set_cons_zero, List.set_cons_succ, i64_w, i32_w]
                           rfl
                          refine pure_ (i := 3) (N := some 99) (v := ?_) (a' := ?_) #[true, true, true, true, false, false, false, false, false, false, false, false, false, false, false, false, false, false, false, false] rfl rfl (any_of HT_.out (by kernel_rfl)) (fun _ _ _ h => h) (Or.inl ⟨by rfl, ?_⟩) ?_ ?_
                          rotate_left
                          ·intro w'
                           go_simp
                           with_reducible rfl
                          rotate_left
                          ·simp only [Act.put, List.setIfInBounds_toArray, List.set_cons_zero, List.set_cons_succ, i64_w, i32_w]
                           rfl
                          refine pure_ (i := 4) (N := some 100) (v := ?_) (a' := ?_) #[true, true, true, true, true, false, false, false, false, false, false, false, false, false, false, false, false, false, false, false] rfl rfl (any_of HT_.out (by kernel_rfl)) (fun _ _ _ h => h) (Or.inl ⟨by rfl, ?_⟩) ?_ ?_
                          rotate_left
                          ·intro w'
                           go_simp
                           with_reducible rfl
                          rotate_left
                          ·simp only [Act.put, List.setIfInBounds_toArray, List.set_cons_zero, List.set_cons_succ, i64_w, i32_w]
                           rfl
                          refine take_ (i := 5) (N := some 101) (v := ?_) (a' := ?_) #[true, true, true, true, true, true, false, false, false, false, false, false, false, false, false, false, false, false, false, false] rfl rfl (take_ofW HT_.out HW_.out (by kernel_rfl)) (fun _ _ _ h => h) (Or.inl ⟨by rfl, ?_⟩) hHeld ?_ ?_
                          rotate_left
                          ·intro w' s0
                           go_simp
                           with_reducible rfl
                          rotate_left
                          ·simp only [Act.put, List.setIfInBounds_toArray, List.set_cons_zero, List.set_cons_succ, i64_w, i32_w]
                           rfl
                          refine pure_ (i := 6) (N := some 102) (v := ?_) (a' := ?_) #[true, true, true, true, true, true, true, false, false, false, false, false, false, false, false, false, false, false, false, false] rfl rfl (any_of HT_.out (by kernel_rfl)) (fun _ _ _ h => h) (Or.inl ⟨by rfl, ?_⟩) ?_ ?_
                          rotate_left
                          ·intro w'
                           go_simp
                           with_reducible rfl
                          rotate_left
                          ·simp only [Act.put, List.setIfInBounds_toArray, List.set_cons_zero, List.set_cons_succ, i64_w, i32_w]
                           rfl
                          refine pure_ (i := 7) (N := some 103) (v := undef) (a' := ?_) #[true, true, true, true, true, true, true, true, false, false, false, false, false, false, false, false, false, false, false, false] rfl rfl (any_of HT_.out (by kernel_rfl)) (fun _ _ _ h => h) (Or.inr ⟨by rfl, rfl⟩) ?_ ?_
                          rotate_left
                          ·simp only [Act.put, List.setIfInBounds_toArray, List.set_cons_zero, List.set_cons_succ, i64_w, i32_w]
                           rfl
                          refine pure_ (i := 8) (N := some 104) (v := undef) (a' := ?_) #[true, true, true, true, true, true, true, true, true, false, false, false, false, false, false, false, false, false, false, false] rfl rfl (any_of HT_.out (by kernel_rfl)) (fun _ _ _ h => h) (Or.inr ⟨by rfl, rfl⟩) ?_ ?_
                          rotate_left
                          ·simp only [Act.put, List.setIfInBounds_toArray, List.set_cons_zero, List.set_cons_succ, i64_w, i32_w]
                           rfl
                          refine pure_ (i := 9) (N := some 105) (v := undef) (a' := ?_) #[true, true, true, true, true, true, true, true, true, true, false, false, false, false, false, false, false, false, false, false] rfl rfl (any_of HT_.out (by kernel_rfl)) (fun _ _ _ h => h) (Or.inr ⟨by rfl, rfl⟩) ?_ ?_
                          rotate_left
                          ·simp only [Act.put, List.setIfInBounds_toArray, List.set_cons_zero, List.set_cons_succ, i64_w, i32_w]
                           rfl
                          refine pure_ (i := 10) (N := some 106) (v := undef) (a' := ?_) #[true, true, true, true, true, true, true, true, true, true, true, false, false, false, false, false, false, false, false, false] rfl rfl (any_of HT_.out (by kernel_rfl)) (fun _ _ _ h => h) (Or.inr ⟨by rfl, rfl⟩) ?_ ?_
                          rotate_left
                          ·simp only [Act.put, List.setIfInBounds_toArray, List.set_cons_zero, List.set_cons_succ, i64_w, i32_w]
                           rfl
                          refine pure_ (i := 11) (N := some 107) (v := undef) (a' := ?_) #[true, true, true, true, true, true, true, true, true, true, true, true, false, false, false, false, false, false, false, false] rfl rfl (any_of HT_.out (by kernel_rfl)) (fun _ _ _ h => h) (Or.inr ⟨by rfl, rfl⟩) ?_ ?_
                          rotate_left
                          ·simp only [Act.put, List.setIfInBounds_toArray, List.set_cons_zero, List.set_cons_succ, i64_w, i32_w]
                           rfl
                          refine pure_ (i := 12) (N := some 108) (v := undef) (a' := ?_) #[true, true, true, true, true, true, true, true, true, true, true, true, true, false, false, false, false, false, false, false] rfl rfl (any_of HT_.out (by kernel_rfl)) (fun _ _ _ h => h) (Or.inr ⟨by rfl, rfl⟩) ?_ ?_
                          rotate_left
                          ·simp only [Act.put, List.setIfInBounds_toArray, List.set_cons_zero, List.set_cons_succ, i64_w, i32_w]
                           rfl
                          refine pure_ (i := 13) (N := some 109) (v := undef) (a' := ?_) #[true, true, true, true, true, true, true, true, true, true, true, true, true, true, false, false, false, false, false, false] rfl rfl (any_of HT_.out (by kernel_rfl)) (fun _ _ _ h => h) (Or.inr ⟨by rfl, rfl⟩) ?_ ?_
                          rotate_left
                          ·simp only [Act.put, List.setIfInBounds_toArray, List.set_cons_zero, List.set_cons_succ, i64_w, i32_w]
                           rfl
                          refine pure_ (i := 14) (N := some 110) (v := undef) (a' := ?_) #[true, true, true, true, true, true, true, true, true, true, true, true, true, true, true, false, false, false, false, false] rfl rfl (any_of HT_.out (by kernel_rfl)) (fun _ _ _ h => h) (Or.inr ⟨by rfl, rfl⟩) ?_ ?_
                          rotate_left
                          ·simp only [Act.put, List.setIfInBounds_toArray, List.set_cons_zero, List.set_cons_succ, i64_w, i32_w]
                           rfl
                          refine pure_ (i := 15) (N := some 111) (v := undef) (a' := ?_) #[true, true, true, true, true, true, true, true, true, true, true, true, true, true, true, true, false, false, false, false] rfl rfl (any_of HT_.out (by kernel_rfl)) (fun _ _ _ h => h) (Or.inr ⟨by rfl, rfl⟩) ?_ ?_
                          rotate_left
                          ·simp only [Act.put, List.setIfInBounds_toArray, List.set_cons_zero, List.set_cons_succ, i64_w, i32_w]
                           rfl
                          refine pure_ (i := 16) (N := some 112) (v := undef) (a' := ?_) #[true, true, true, true, true, true, true, true, true, true, true, true, true, true, true, true, true, false, false, false] rfl rfl (any_of HT_.out (by kernel_rfl)) (fun _ _ _ h => h) (Or.inr ⟨by rfl, rfl⟩) ?_ ?_
                          rotate_left
                          ·simp only [Act.put, List.setIfInBounds_toArray, List.set_cons_zero, List.set_cons_succ, i64_w, i32_w]
                           rfl
                          refine pure_ (i := 17) (N := some 113) (v := ?_) (a' := ?_) #[true, true, true, true, true, true, true, true, true, true, true, true, true, true, true, true, true, true, false, false] rfl rfl (any_of HT_.out (by kernel_rfl)) (fun _ _ _ h => h) (Or.inl ⟨by rfl, ?_⟩) ?_ ?_
                          rotate_left
                          ·intro w'
                           go_simp
                           with_reducible rfl
                          rotate_left
                          ·simp only [Act.put, List.setIfInBounds_toArray, List.set_cons_zero, List.set_cons_succ, i64_w, i32_w]
                           rfl
                          refine pure_ (i := 18) (N := some 114) (v := ?_) (a' := ?_) #[true, true, true, true, true, true, true, true, true, true, true, true, true, true, true, true, true, true, true, false] rfl rfl (any_of HT_.out (by kernel_rfl)) (fun _ _ _ h => h) (Or.inl ⟨by rfl, ?_⟩) ?_ ?_
                          rotate_left
                          ·intro w'
                           go_simp
                           with_reducible rfl
                          rotate_left
                          ·simp only [Act.put, List.setIfInBounds_toArray, List.set_cons_zero, List.set_cons_succ, i64_w, i32_w]
                           rfl
                          refine last_ (i := 19) (N := none) #[true, true, true, true, true, true, true, true, true, true, true, true, true, true, true, true, true, true, true, true] rfl rfl (one_of HT_.out (by kernel_rfl)) (by decide) (fun K hK => ?_)
                          refine skip_ (w1 := ?_) (by rfl) rfl ?_ ?_
                          rotate_left
                          ·go_simp
                           rfl
                          refine hK.out _ _ ?_
                          clear hK K
                          refine done_ (done_of HT_.out (by kernel_rfl)) ?_
                          try go_wp2
                          go_roundg k5
                          case measure => have := HK1.out; have := HK2.out; have := HK3.out; have := HK4.out; have := HK5.out; omega
                          case rel => exact ⟨(y382), (wrap64 (x12_5 + 1)), (by first | rfl | (simp; done) | (simp [*]; done)), H', ⟨by have := HK1.out; have := HK2.out; have := HK3.out; have := HK4.out; have := HK5.out; omega⟩, ⟨by (with_reducible repeat (first | apply Kd.R_alloc | apply Kd.R_drewN | apply Kd.R_drew)); exact Kd.R_mono (Kd.R_far (p := ⟨go47, ((rd (rd_L1 l0_3 x11_4) x12_5) : Int).toNat, none⟩) (Kd.R_mono HO_6.out (fun k_ hk => (⟨hk, fun e_ => hk (by rw [e_]; rfl)⟩ : _ ∧ k_ ≠ go47))) (fun _ hk => hk.2) (.bool true)) (fun _ hk => hk.1)⟩, ⟨by (with_reducible repeat (first | apply Kd.R_alloc | apply Kd.R_drewN | apply Kd.R_drew)); exact HQ52.out⟩, ⟨by (with_reducible repeat (first | refine blk_drewN ?_ _ | refine blk_drew ?_ | refine blk_alloc ?_ _)); refine blk_far ?_ (by have h_ := Kd.R_ne HO_9.out BK362.out (by decide); intro e_; exact h_ (by rw [e_]; rfl)) _; (with_reducible repeat (first | refine blk_drewN ?_ _ | refine blk_drew ?_ | refine blk_alloc ?_ _)); exact BK362.out⟩, ⟨by repeat (first | (with_reducible first | exact HB.out | apply below_alloc | apply pw_below_drewN | apply below_drew1 | refine below_set ?_ GB47.out | refine below_set ?_ GE362.out) | exact HB.out)⟩⟩
                         ·replace c46 := Bool.eq_false_iff.mpr c46
                          subst c46
                          have H1 : (if (rd (rd_L1 l0_3 x11_4) x12_5) < (l0_0.length : Int) then (if 0 ≤ x8_2 then (if x8_2 < (l1.length : Int) then ((caesuraref11_has.f k5 (rd_L1 l0_0 (rd (rd_L1 l0_3 x11_4) x12_5)) (rd l1 x8_2)).bind fun t385 => (caesuraref11_Match.l4 k5 l1 x6_2 x8_2 (x9_5.set ((rd (rd_L1 l0_3 x11_4) x12_5) : Int).toNat t385) x11_4 (wrap64 (x12_5 + 1)) l0_0 l0_1 l0_2 l0_3 a0_4)) else (none)) else (none)) else (none)) = some r := by rw [if_neg (show ¬ (false = true) by decide)] at H; exact H
                          clear H
                          have H := H1
                          clear H1
                          by_cases c53 : (rd (rd_L1 l0_3 x11_4) x12_5) < (l0_0.length : Int)
                          ·rw [if_pos c53] at H
                           have c53b0 : decide ((rd (rd_L1 l0_3 x11_4) x12_5) < (l0_0.length : Int)) = true := decide_eq_true c53
                           clear c53
                           by_cases c54 : 0 ≤ x8_2
                           ·rw [if_pos c54] at H
                            have c54b0 : decide (0 ≤ x8_2) = true := decide_eq_true c54
                            clear c54
                            by_cases c55 : x8_2 < (l1.length : Int)
                            ·rw [if_pos c55] at H
                             have c55b0 : decide (x8_2 < (l1.length : Int)) = true := decide_eq_true c55
                             clear c55
                             replace H := Option.bind_eq_some_iff.mp H
                             obtain ⟨t385, A560, H⟩ := H
                             replace H : (caesuraref11_Match.l4 k5 l1 x6_2 x8_2 (x9_5.set ((rd (rd_L1 l0_3 x11_4) x12_5) : Int).toNat t385) x11_4 (wrap64 (x12_5 + 1)) l0_0 l0_1 l0_2 l0_3 a0_4) = some r := H
                             have A56 := Aside0.mk A560
                             clear A560
                             obtain ⟨y386, hy386⟩ : ∃ y_ : List Bool, y_ = (x9_5.set ((rd (rd_L1 l0_3 x11_4) x12_5) : Int).toNat t385) := ⟨_, rfl⟩
                             replace H : (caesuraref11_Match.l4 k5 l1 x6_2 x8_2 y386 x11_4 (wrap64 (x12_5 + 1)) l0_0 l0_1 l0_2 l0_3 a0_4) = some r := by first | (rw [hy386]; with_reducible exact H) | (have H2_ := (Option.bind_some _ _).symm.trans H; rw [hy386]; with_reducible exact H2_) | (have H2_ := (Option.bind_some _ _).symm.trans H; with_reducible exact H2_) | with_reducible exact H | (rw [hy386]; exact H) | exact H
                             have Ny386 := Aside0.mk hy386
                             clear hy386
                             have H' := Aside0.mk H
                             clear H
                             obtain ⟨Ao58, co58, eo58⟩ := Kd.R_slice HO_6.out
                             subst eo58
                             have p377 : 0 ≤ (x11_4 : Int) := of_decide_eq_true (by first | (with_reducible assumption) | assumption)
                             have q377 : x11_4 < (x6_2.length : Int) := of_decide_eq_true (by first | (with_reducible assumption) | assumption)
                             obtain ⟨ad377, e377, hx377_0⟩ := Kd.at_bool (Kd.R_reads' HO_6.out).2.2 x11_4 p377 q377
                             (try rw [← Nbq38.out] at hx377_0)
                             (try rw [← Nbq45.out] at hx377_0)
                             cases e377
                             replace p377 := eq_true p377
                             replace q377 := eq_true q377
                             have hcz59_0 : wr.cell? ⟨gb362, 0, none⟩ = some (.slice A0_0 l0_0.length c0_0) := (blk_cell BK362.out 0).trans rfl
                             have hcz59_1 : wr.cell? ⟨gb362, 1, none⟩ = some (.slice A0_1 l0_1.length c0_1) := (blk_cell BK362.out 1).trans rfl
                             have hcz59_2 : wr.cell? ⟨gb362, 2, none⟩ = some (.slice A0_2 l0_2.length c0_2) := (blk_cell BK362.out 2).trans rfl
                             have hcz59_3 : wr.cell? ⟨gb362, 3, none⟩ = some (.slice A0_3 l0_3.length c0_3) := (blk_cell BK362.out 3).trans rfl
                             have hcz59_4 : wr.cell? ⟨gb362, 4, none⟩ = some (.bool a0_4) := (blk_cell BK362.out 4).trans rfl
                             have hfz59_0 := blk_frozen BK362.out 0
                             have hfz59_1 := blk_frozen BK362.out 1
                             have hfz59_2 := blk_frozen BK362.out 2
                             have hfz59_3 := blk_frozen BK362.out 3
                             have hfz59_4 := blk_frozen BK362.out 4
                             have p378 : 0 ≤ (x11_4 : Int) := of_decide_eq_true (by first | (with_reducible assumption) | assumption)
                             have q378 : x11_4 < (l0_3.length : Int) := of_decide_eq_true (by first | (with_reducible assumption) | assumption)
                             obtain ⟨ad378, A378_0, c378_0, e378, hx378_0, hl378_0, hi378_0⟩ := at_L1 HR0_3.out x11_4 p378 q378
                             cases e378
                             replace hx378_0 := (HB.out.cell (World.block_lt_of_cell? w _ hx378_0)).trans hx378_0
                             have HR378_0 := Aside0.mk hi378_0
                             have HC378_0 := Aside0.mk hl378_0
                             clear hi378_0 hl378_0
                             replace p378 := eq_true p378
                             replace q378 := eq_true q378
                             have p379 : 0 ≤ (x11_4 : Int) := of_decide_eq_true (by first | (with_reducible assumption) | assumption)
                             have q379 : x11_4 < (l0_3.length : Int) := of_decide_eq_true (by first | (with_reducible assumption) | assumption)
                             obtain ⟨ad379, A379_0, c379_0, e379, hx379_0, hl379_0, hi379_0⟩ := at_L1 HR0_3.out x11_4 p379 q379
                             obtain rfl : ad378 = ad379 := (by injection e379)
                             replace hx379_0 := (HB.out.cell (World.block_lt_of_cell? w _ hx379_0)).trans hx379_0
                             have HR379_0 := Aside0.mk hi379_0
                             have HC379_0 := Aside0.mk hl379_0
                             clear hi379_0 hl379_0
                             replace p379 := eq_true p379
                             replace q379 := eq_true q379
                             have ea_ := Option.some.inj (hx378_0.symm.trans hx379_0)
                             injection ea_ with ea_ en_ ec_
                             subst ea_
                             subst ec_
                             clear en_
                             have p380 : 0 ≤ (x12_5 : Int) := of_decide_eq_true (by first | (with_reducible assumption) | assumption)
                             have q380 : x12_5 < ((rd_L1 l0_3 x11_4).length : Int) := of_decide_eq_true (by first | (with_reducible assumption) | assumption)
                             obtain ⟨ad380, e380, hx380_0⟩ := Kd.at_int HR379_0.out x12_5 p380 q380
                             cases e380
                             replace hx380_0 := (HB.out.cell (World.block_lt_of_cell? w _ hx380_0)).trans hx380_0
                             replace p380 := eq_true p380
                             replace q380 := eq_true q380
                             try go_wp2
                             have n0_ := Aside0.mk (Kd.R_drew HO_6.out)
                             have n1_ := Aside0.mk (Kd.R_drew HO_9.out)
                             have n2_ := Aside0.mk (blk_drew BK362.out)
                             have n3_ := Aside0.mk (below_drew1 HB.out)
                             clear HO_6
                             clear HO_9
                             clear BK362
                             clear HB
                             have HO_6 := n0_
                             have HO_9 := n1_
                             have BK362 := n2_
                             have HB := n3_
                             clear n0_ n1_ n2_ n3_
                             obtain ⟨Ao61, co61, eo61⟩ := Kd.R_slice HO_9.out
                             (first | subst eo61 | (injection eo61 with f1_ f2_ f3_; have f4_ := f1_.symm; have f5_ := f3_.symm; clear f1_ f2_ f3_; subst f4_; subst f5_))
                             have p381 : 0 ≤ ((rd (rd_L1 l0_3 x11_4) x12_5) : Int) := of_decide_eq_true (by first | (with_reducible assumption) | assumption)
                             have q381 : (rd (rd_L1 l0_3 x11_4) x12_5) < (x9_5.length : Int) := of_decide_eq_true (by first | (with_reducible assumption) | assumption)
                             obtain ⟨ad381, e381, hx381_0⟩ := Kd.at_bool (Kd.R_reads' HO_9.out).2.2 (rd (rd_L1 l0_3 x11_4) x12_5) p381 q381
                             (try rw [← Nbq38.out] at hx381_0)
                             (try rw [← Nbq45.out] at hx381_0)
                             cases e381
                             replace p381 := eq_true p381
                             replace q381 := eq_true q381
                             have p383 : 0 ≤ ((rd (rd_L1 l0_3 x11_4) x12_5) : Int) := of_decide_eq_true (by first | (with_reducible assumption) | assumption)
                             have q383 : (rd (rd_L1 l0_3 x11_4) x12_5) < (l0_0.length : Int) := of_decide_eq_true (by first | (with_reducible assumption) | assumption)
                             obtain ⟨ad383, A383_0, c383_0, e383, hx383_0, hl383_0, hi383_0⟩ := at_L1 HR0_0.out (rd (rd_L1 l0_3 x11_4) x12_5) p383 q383
                             have hw383_0 := hx383_0
                             cases e383
                             replace hx383_0 := (HB.out.cell (World.block_lt_of_cell? w _ hx383_0)).trans hx383_0
                             have HR383_0 := Aside0.mk hi383_0
                             have HC383_0 := Aside0.mk hl383_0
                             clear hi383_0 hl383_0
                             replace p383 := eq_true p383
                             replace q383 := eq_true q383
                             have p384 : 0 ≤ (x8_2 : Int) := of_decide_eq_true (by first | (with_reducible assumption) | assumption)
                             have q384 : x8_2 < (l1.length : Int) := of_decide_eq_true (by first | (with_reducible assumption) | assumption)
                             obtain ⟨ad384, e384, hx384_0⟩ := Kd.at_int HR1.out x8_2 p384 q384
                             have hw384_0 := hx384_0
                             cases e384
                             replace hx384_0 := (HB.out.cell (World.block_lt_of_cell? w _ hx384_0)).trans hx384_0
                             replace p384 := eq_true p384
                             replace q384 := eq_true q384
                             refine start_ (n := 20) (S := fun w' => w'.cell? ⟨gb362, 0, none⟩ = some (.slice (some ad383) l0_0.length c0_0) ∧ w'.cell? ⟨gb362, 1, none⟩ = some (.slice A0_1 l0_1.length c0_1) ∧ w'.cell? ⟨gb362, 2, none⟩ = some (.slice A0_2 l0_2.length c0_2) ∧ w'.cell? ⟨gb362, 3, none⟩ = some (.slice (some ad378) l0_3.length c0_3) ∧ w'.cell? ⟨gb362, 4, none⟩ = some (.bool a0_4) ∧ w'.cell? (ad381.add ((rd (rd_L1 l0_3 x11_4) x12_5)).toNat) = some (.bool false) ∧ w'.cell? (ad383.add ((rd (rd_L1 l0_3 x11_4) x12_5)).toNat) = some (.slice A383_0 (rd_L1 l0_0 (rd (rd_L1 l0_3 x11_4) x12_5)).length c383_0) ∧ w'.cell? (ad384.add (x8_2).toNat) = some (.int .i64 (rd l1 x8_2))) (ds := [19]) #[false, false, false, false, false, false, false, false, false, false, false, false, false, false, false, false, false, false, false, false] (by kernel_rfl) rfl rfl ⟨(blk_cell BK362.out 0).trans rfl, (blk_cell BK362.out 1).trans rfl, (blk_cell BK362.out 2).trans rfl, (blk_cell BK362.out 3).trans rfl, (blk_cell BK362.out 4).trans rfl, hx381_0, ((HB.out.cell (World.block_lt_of_cell? w _ hw383_0)).trans hw383_0), ((HB.out.cell (World.block_lt_of_cell? w _ hw384_0)).trans hw384_0)⟩ (fun hHeld => ?_); refine with_tabW caesuraref11_Match.tab26 caesuraref11_Match.bits26 (fun HT_ HW_ => ?_)
                             generalize wr.drew = w60 at HO_6 HO_9 BK362 HB HR383_0 hx381_0 hx383_0 hx384_0 hHeld ⊢
                             refine pure_ (i := 0) (N := some 96) (v := ?_) (a' := ?_) #[true, false, false, false, false, false, false, false, false, false, false, false, false, false, false, false, false, false, false, false] rfl rfl (any_of HT_.out (by kernel_rfl)) (fun _ _ _ h => h) (Or.inl ⟨by rfl, ?_⟩) ?_ ?_
                             rotate_left
                             ·intro w'
                              go_simp
                              with_reducible rfl
                             rotate_left
                             ·simp only [Act.put, List.setIfInBounds_toArray, List.set_cons_zero, List.set_cons_succ, i64_w, i32_w]
                              rfl
                             refine pure_ (i := 1) (N := some 97) (v := ?_) (a' := ?_) #[true, true, false, false, false, false, false, false, false, false, false, false, false, false, false, false, false, false, false, false] rfl rfl (any_of HT_.out (by kernel_rfl)) (fun _ _ _ h => h) (Or.inl ⟨by rfl, ?_⟩) ?_ ?_
                             rotate_left
                             ·intro w'
                              go_simp
                              with_reducible rfl
                             rotate_left
                             ·simp only [Act.put, List.setIfInBounds_toArray, List.set_cons_zero, List.set_cons_succ, i64_w, i32_w]
                              rfl
                             refine pure_ (i := 2) (N := some 98) (v := ?_) (a' := ?_) #[true, true, true, false, false, false, false, false, false, false, false, false, false, false, false, false, false, false, false, false] rfl rfl (any_of HT_.out (by kernel_rfl)) (fun _ _ _ h => h) (Or.inl ⟨by rfl, ?_⟩) ?_ ?_
                             rotate_left
                             ·intro w'
                              go_simp
                              with_reducible rfl
                             rotate_left
                             ·simp only [Act.put, List.setIfInBounds_toArray, List.set_cons_zero, List.set_cons_succ, i64_w, i32_w]
                              rfl
                             refine pure_ (i := 3) (N := some 99) (v := ?_) (a' := ?_) #[true, true, true, true, false, false, false, false, false, false, false, false, false, false, false, false, false, false, false, false] rfl rfl (any_of HT_.out (by kernel_rfl)) (fun _ _ _ h => h) (Or.inl ⟨by rfl, ?_⟩) ?_ ?_
                             rotate_left
                             ·intro w'
                              go_simp
                              with_reducible rfl
                             rotate_left
                             ·simp only [Act.put, List.setIfInBounds_toArray, List.set_cons_zero, List.set_cons_succ, i64_w, i32_w]
                              rfl
                             refine pure_ (i := 4) (N := some 100) (v := ?_) (a' := ?_) #[true, true, true, true, true, false, false, false, false, false, false, false, false, false, false, false, false, false, false, false] rfl rfl (any_of HT_.out (by kernel_rfl)) (fun _ _ _ h => h) (Or.inl ⟨by rfl, ?_⟩) ?_ ?_
                             rotate_left
                             ·intro w'
                              go_simp
                              with_reducible rfl
                             rotate_left
                             ·simp only [Act.put, List.setIfInBounds_toArray, List.set_cons_zero, List.set_cons_succ, i64_w, i32_w]
                              rfl
                             refine take_ (i := 5) (N := some 101) (v := ?_) (a' := ?_) #[true, true, true, true, true, true, false, false, false, false, false, false, false, false, false, false, false, false, false, false] rfl rfl (take_ofW HT_.out HW_.out (by kernel_rfl)) (fun _ _ _ h => h) (Or.inl ⟨by rfl, ?_⟩) hHeld ?_ ?_
                             rotate_left
                             ·rintro w' ⟨s0, s1, s2, s3, s4, s5, s6, s7⟩
                              go_simp
                              with_reducible rfl
                             rotate_left
                             ·simp only [Act.put, List.setIfInBounds_toArray, List.set_cons_zero, List.set_cons_succ, i64_w, i32_w]
                              rfl
                             refine pure_ (i := 6) (N := some 102) (v := ?_) (a' := ?_) #[true, true, true, true, true, true, true, false, false, false, false, false, false, false, false, false, false, false, false, false] rfl rfl (any_of HT_.out (by kernel_rfl)) (fun _ _ _ h => h) (Or.inl ⟨by rfl, ?_⟩) ?_ ?_
                             rotate_left
                             ·intro w'
                              go_simp
                              with_reducible rfl
                             rotate_left
                             ·simp only [Act.put, List.setIfInBounds_toArray, List.set_cons_zero, List.set_cons_succ, i64_w, i32_w]
                              rfl
                             refine pure_ (i := 7) (N := some 103) (v := ?_) (a' := ?_) #[true, true, true, true, true, true, true, true, false, false, false, false, false, false, false, false, false, false, false, false] rfl rfl (any_of HT_.out (by kernel_rfl)) (fun _ _ _ h => h) (Or.inl ⟨by rfl, ?_⟩) ?_ ?_
                             rotate_left
                             ·intro w'
                              go_simp
                              with_reducible rfl
                             rotate_left
                             ·simp only [Act.put, List.setIfInBounds_toArray, List.set_cons_zero, List.set_cons_succ, i64_w, i32_w]
                              rfl
                             refine pure_ (i := 9) (N := some 105) (v := ?_) (a' := ?_) #[true, true, true, true, true, true, true, true, false, true, false, false, false, false, false, false, false, false, false, false] rfl rfl (any_of HT_.out (by kernel_rfl)) (fun _ _ _ h => h) (Or.inl ⟨by rfl, ?_⟩) ?_ ?_
                             rotate_left
                             ·intro w'
                              go_simp
                              with_reducible rfl
                             rotate_left
                             ·simp only [Act.put, List.setIfInBounds_toArray, List.set_cons_zero, List.set_cons_succ, i64_w, i32_w]
                              rfl
                             refine pure_ (i := 12) (N := some 108) (v := ?_) (a' := ?_) #[true, true, true, true, true, true, true, true, false, true, false, false, true, false, false, false, false, false, false, false] rfl rfl (any_of HT_.out (by kernel_rfl)) (fun _ _ _ h => h) (Or.inl ⟨by rfl, ?_⟩) ?_ ?_
                             rotate_left
                             ·intro w'
                              go_simp
                              with_reducible rfl
                             rotate_left
                             ·simp only [Act.put, List.setIfInBounds_toArray, List.set_cons_zero, List.set_cons_succ, i64_w, i32_w]
                              rfl
                             refine pure_ (i := 13) (N := some 109) (v := ?_) (a' := ?_) #[true, true, true, true, true, true, true, true, false, true, false, false, true, true, false, false, false, false, false, false] rfl rfl (any_of HT_.out (by kernel_rfl)) (fun _ _ _ h => h) (Or.inl ⟨by rfl, ?_⟩) ?_ ?_
                             rotate_left
                             ·intro w'
                              go_simp
                              with_reducible rfl
                             rotate_left
                             ·simp only [Act.put, List.setIfInBounds_toArray, List.set_cons_zero, List.set_cons_succ, i64_w, i32_w]
                              rfl
                             refine pure_ (i := 14) (N := some 110) (v := ?_) (a' := ?_) #[true, true, true, true, true, true, true, true, false, true, false, false, true, true, true, false, false, false, false, false] rfl rfl (any_of HT_.out (by kernel_rfl)) (fun _ _ _ h => h) (Or.inl ⟨by rfl, ?_⟩) ?_ ?_
                             rotate_left
                             ·intro w'
                              go_simp
                              with_reducible rfl
                             rotate_left
                             ·simp only [Act.put, List.setIfInBounds_toArray, List.set_cons_zero, List.set_cons_succ, i64_w, i32_w]
                              rfl
                             refine take_ (i := 8) (N := some 104) (v := ?_) (a' := ?_) #[true, true, true, true, true, true, true, true, true, true, false, false, true, true, true, false, false, false, false, false] rfl rfl (take_ofW HT_.out HW_.out (by kernel_rfl)) (fun _ _ _ h => h) (Or.inl ⟨by rfl, ?_⟩) hHeld ?_ ?_
                             rotate_left
                             ·rintro w' ⟨s0, s1, s2, s3, s4, s5, s6, s7⟩
                              go_simp
                              with_reducible rfl
                             rotate_left
                             ·simp only [Act.put, List.setIfInBounds_toArray, List.set_cons_zero, List.set_cons_succ, i64_w, i32_w]
                              rfl
                             refine pure_ (i := 10) (N := some 106) (v := ?_) (a' := ?_) #[true, true, true, true, true, true, true, true, true, true, true, false, true, true, true, false, false, false, false, false] rfl rfl (any_of HT_.out (by kernel_rfl)) (fun _ _ _ h => h) (Or.inl ⟨by rfl, ?_⟩) ?_ ?_
                             rotate_left
                             ·intro w'
                              go_simp
                              with_reducible rfl
                             rotate_left
                             ·simp only [Act.put, List.setIfInBounds_toArray, List.set_cons_zero, List.set_cons_succ, i64_w, i32_w]
                              rfl
                             refine take_ (i := 11) (N := some 107) (v := ?_) (a' := ?_) #[true, true, true, true, true, true, true, true, true, true, true, true, true, true, true, false, false, false, false, false] rfl rfl (take_ofW HT_.out HW_.out (by kernel_rfl)) (fun _ _ _ h => h) (Or.inl ⟨by rfl, ?_⟩) hHeld ?_ ?_
                             rotate_left
                             ·rintro w' ⟨s0, s1, s2, s3, s4, s5, s6, s7⟩
                              go_simp
                              with_reducible rfl
                             rotate_left
                             ·simp only [Act.put, List.setIfInBounds_toArray, List.set_cons_zero, List.set_cons_succ, i64_w, i32_w]
                              rfl
                             refine take_ (i := 15) (N := some 111) (v := ?_) (a' := ?_) #[true, true, true, true, true, true, true, true, true, true, true, true, true, true, true, true, false, false, false, false] rfl rfl (take_ofW HT_.out HW_.out (by kernel_rfl)) (fun _ _ _ h => h) (Or.inl ⟨by rfl, ?_⟩) hHeld ?_ ?_
                             rotate_left
                             ·rintro w' ⟨s0, s1, s2, s3, s4, s5, s6, s7⟩
                              go_simp
                              with_reducible rfl
                             rotate_left
                             ·simp only [Act.put, List.setIfInBounds_toArray, List.set_cons_zero, List.set_cons_succ, i64_w, i32_w]
                              rfl
                             refine one_ (i := 16) (N := some 112) #[true, true, true, true, true, true, true, true, true, true, true, true, true, true, true, true, true, false, false, false] rfl rfl (one_of HT_.out (by kernel_rfl)) (by decide) (fun K hK => ?_)
                             refine goes_ Tryd.func89 (by kernel_rfl) rfl #[.slice A383_0 (rd_L1 l0_0 (rd (rd_L1 l0_3 x11_4) x12_5)).length c383_0, .int .i64 (rd l1 x8_2)] (by rfl) rfl rfl (by (try simp only [List.map_toArray, List.map_cons, List.map_nil]); first | done | rfl | (simp only [List.length_drop, List.length_take]; rfl)) ?_
                             with_reducible refine (caesuraref11_has.calls k5 _ _ (rd_L1 l0_0 (rd (rd_L1 l0_3 x11_4) x12_5)) (rd l1 x8_2) t385 _ ?side1 ?side2 A56.out).mono ?_
                             (case side1 => repeat (first | exact (Kd.C_below HR383_0.out HB.out) | (with_reducible refine Kd.C_alloc ?_ _) | (with_reducible refine Kd.C_drewN ?_ _) | (with_reducible refine Kd.C_drew ?_)))
                             (case side2 => exact HC383_0.out)
                             rintro e w' ⟨rfl, ⟨nd, rfl⟩⟩
                             refine ⟨_, rfl, ?_⟩
                             have p57 : 0 ≤ ((rd (rd_L1 l0_3 x11_4) x12_5) : Int) := of_decide_eq_true (by first | (with_reducible assumption) | assumption)
                             have q57 : ((rd (rd_L1 l0_3 x11_4) x12_5) : Int) < ((x9_5.length : Int) : Int) := of_decide_eq_true (by first | (with_reducible assumption) | assumption)
                             obtain ⟨go57, co57, eo57, gb57, gl57, cl57, HG57⟩ := Kd.R_form HO_9.out (by omega)
                             (first | cases eo57 | (injection eo57 with ea_ en_ ec_; (first | subst ea_ | (injection ea_ with ea_; subst ea_)); subst ec_; clear en_))
                             have GB57 := Aside0.mk gb57
                             have GG57 := Aside0.mk HG57
                             clear gb57 gl57 HG57
                             (first | simp only [add_plain] at hx381_0 | skip)
                             obtain ⟨hx57_0, hf57_0⟩ := Kd.R_celln false HO_9.out ((rd (rd_L1 l0_3 x11_4) x12_5) : Int) p57 q57
                             replace p57 := eq_true p57
                             replace q57 := eq_true q57
                             have HP62 := Kd.R_putn HO_9.out ((rd (rd_L1 l0_3 x11_4) x12_5) : Int) t385
                             rw [← Ny386.out] at HP62
                             have HQ62 := Aside0.mk HP62
                             clear HP62
                             refine hK.out _ _ ⟨(blk_cell BK362.out 0).trans rfl, (blk_cell BK362.out 1).trans rfl, (blk_cell BK362.out 2).trans rfl, (blk_cell BK362.out 3).trans rfl, (blk_cell BK362.out 4).trans rfl, hHeld.2.2.2.2.2.1, ((HB.out.cell (World.block_lt_of_cell? w _ hw383_0)).trans hw383_0), ((HB.out.cell (World.block_lt_of_cell? w _ hw384_0)).trans hw384_0)⟩ (fun hHeld => ?_)
                             clear hK K
                             refine norm_ (a' := ?_) ?_ ?_
                             rotate_left
                             ·show Act.put _ (some 112) _ = _
                              simp only [Act.put, List.setIfInBounds_toArray, List.set_cons_zero, List.set_cons_succ, i64_w, i32_w]
                              rfl
                             refine pure_ (i := 17) (N := some 113) (v := ?_) (a' := ?_) #[true, true, true, true, true, true, true, true, true, true, true, true, true, true, true, true, true, true, false, false] rfl rfl (any_of HT_.out (by kernel_rfl)) (fun _ _ _ h => h) (Or.inl ⟨by rfl, ?_⟩) ?_ ?_
                             rotate_left
                             ·intro w'
                              go_simp
                              with_reducible rfl
                             rotate_left
                             ·simp only [Act.put, List.setIfInBounds_toArray, List.set_cons_zero, List.set_cons_succ, i64_w, i32_w]
                              rfl
                             refine pure_ (i := 18) (N := some 114) (v := ?_) (a' := ?_) #[true, true, true, true, true, true, true, true, true, true, true, true, true, true, true, true, true, true, true, false] rfl rfl (any_of HT_.out (by kernel_rfl)) (fun _ _ _ h => h) (Or.inl ⟨by rfl, ?_⟩) ?_ ?_
                             rotate_left
                             ·intro w'
                              go_simp
                              with_reducible rfl
                             rotate_left
                             ·simp only [Act.put, List.setIfInBounds_toArray, List.set_cons_zero, List.set_cons_succ, i64_w, i32_w]
                              rfl
                             refine last_ (i := 19) (N := none) #[true, true, true, true, true, true, true, true, true, true, true, true, true, true, true, true, true, true, true, true] rfl rfl (one_of HT_.out (by kernel_rfl)) (by decide) (fun K hK => ?_)
                             refine skip_ (w1 := ?_) (by rfl) rfl ?_ ?_
                             rotate_left
                             ·go_simp
                              rfl
                             refine hK.out _ _ ?_
                             clear hK K
                             refine done_ (done_of HT_.out (by kernel_rfl)) ?_
                             try go_wp2
                             go_roundg k5
                             case measure => have := HK1.out; have := HK2.out; have := HK3.out; have := HK4.out; have := HK5.out; omega
                             case rel => exact ⟨(y386), (wrap64 (x12_5 + 1)), (by first | rfl | (simp; done) | (simp [*]; done)), H', ⟨by have := HK1.out; have := HK2.out; have := HK3.out; have := HK4.out; have := HK5.out; omega⟩, ⟨by (with_reducible repeat (first | apply Kd.R_alloc | apply Kd.R_drewN | apply Kd.R_drew)); exact Kd.R_mono (Kd.R_far (p := ⟨go57, ((rd (rd_L1 l0_3 x11_4) x12_5) : Int).toNat, none⟩) (Kd.R_mono HO_6.out (fun k_ hk => (⟨hk, fun e_ => hk (by rw [e_]; rfl)⟩ : _ ∧ k_ ≠ go57))) (fun _ hk => hk.2) (.bool t385)) (fun _ hk => hk.1)⟩, ⟨by (with_reducible repeat (first | apply Kd.R_alloc | apply Kd.R_drewN | apply Kd.R_drew)); exact HQ62.out⟩, ⟨by (with_reducible repeat (first | refine blk_drewN ?_ _ | refine blk_drew ?_ | refine blk_alloc ?_ _)); refine blk_far ?_ (by have h_ := Kd.R_ne HO_9.out BK362.out (by decide); intro e_; exact h_ (by rw [e_]; rfl)) _; (with_reducible repeat (first | refine blk_drewN ?_ _ | refine blk_drew ?_ | refine blk_alloc ?_ _)); exact BK362.out⟩, ⟨by repeat (first | (with_reducible first | exact HB.out | apply below_alloc | apply pw_below_drewN | apply below_drew1 | refine below_set ?_ GB57.out | refine below_set ?_ GE362.out) | exact HB.out)⟩⟩
                            ·rw [if_neg c55] at H
                             exact absurd H (by simp)
                           ·rw [if_neg c54] at H
                            exact absurd H (by simp)
                          ·rw [if_neg c53] at H
                           exact absurd H (by simp)
                        ·rw [if_neg c44] at H
                         exact absurd H (by simp)
                       ·rw [if_neg c43] at H
                        exact absurd H (by simp)
                      ·rw [if_neg c42] at H
                       exact absurd H (by simp)
                     ·rw [if_neg c41] at H
                      have c41b0 : decide (x12_5 < ((rd_L1 l0_3 x11_4).length : Int)) = false := decide_eq_false c41
                      clear c41
                      have H' := Aside0.mk H
                      clear H
                      obtain ⟨Ao63, co63, eo63⟩ := Kd.R_slice HO_6.out
                      subst eo63
                      have p377 : 0 ≤ (x11_4 : Int) := of_decide_eq_true (by first | (with_reducible assumption) | assumption)
                      have q377 : x11_4 < (x6_2.length : Int) := of_decide_eq_true (by first | (with_reducible assumption) | assumption)
                      obtain ⟨ad377, e377, hx377_0⟩ := Kd.at_bool (Kd.R_reads' HO_6.out).2.2 x11_4 p377 q377
                      (try rw [← Nbq38.out] at hx377_0)
                      cases e377
                      replace p377 := eq_true p377
                      replace q377 := eq_true q377
                      have hcz64_0 : wr.cell? ⟨gb362, 0, none⟩ = some (.slice A0_0 l0_0.length c0_0) := (blk_cell BK362.out 0).trans rfl
                      have hcz64_1 : wr.cell? ⟨gb362, 1, none⟩ = some (.slice A0_1 l0_1.length c0_1) := (blk_cell BK362.out 1).trans rfl
                      have hcz64_2 : wr.cell? ⟨gb362, 2, none⟩ = some (.slice A0_2 l0_2.length c0_2) := (blk_cell BK362.out 2).trans rfl
                      have hcz64_3 : wr.cell? ⟨gb362, 3, none⟩ = some (.slice A0_3 l0_3.length c0_3) := (blk_cell BK362.out 3).trans rfl
                      have hcz64_4 : wr.cell? ⟨gb362, 4, none⟩ = some (.bool a0_4) := (blk_cell BK362.out 4).trans rfl
                      have hfz64_0 := blk_frozen BK362.out 0
                      have hfz64_1 := blk_frozen BK362.out 1
                      have hfz64_2 := blk_frozen BK362.out 2
                      have hfz64_3 := blk_frozen BK362.out 3
                      have hfz64_4 := blk_frozen BK362.out 4
                      have p378 : 0 ≤ (x11_4 : Int) := of_decide_eq_true (by first | (with_reducible assumption) | assumption)
                      have q378 : x11_4 < (l0_3.length : Int) := of_decide_eq_true (by first | (with_reducible assumption) | assumption)
                      obtain ⟨ad378, A378_0, c378_0, e378, hx378_0, hl378_0, hi378_0⟩ := at_L1 HR0_3.out x11_4 p378 q378
                      cases e378
                      replace hx378_0 := (HB.out.cell (World.block_lt_of_cell? w _ hx378_0)).trans hx378_0
                      have HR378_0 := Aside0.mk hi378_0
                      have HC378_0 := Aside0.mk hl378_0
                      clear hi378_0 hl378_0
                      replace p378 := eq_true p378
                      replace q378 := eq_true q378
                      go_wp2
                      go_roundg k5
                      case measure => have := HK1.out; have := HK2.out; have := HK3.out; have := HK4.out; have := HK5.out; omega
                      case rel => exact ⟨(x9_5), (wrap64 (x11_4 + 1)), (by first | rfl | (simp; done) | (simp [*]; done)), H', ⟨by have := HK1.out; have := HK2.out; have := HK3.out; have := HK4.out; have := HK5.out; omega⟩, ⟨by (with_reducible repeat (first | apply Kd.R_alloc | apply Kd.R_drewN | apply Kd.R_drew)); exact HO_6.out⟩, ⟨by (with_reducible repeat (first | apply Kd.R_alloc | apply Kd.R_drewN | apply Kd.R_drew)); exact HO_9.out⟩, ⟨by (with_reducible repeat (first | refine blk_drewN ?_ _ | refine blk_drew ?_ | refine blk_alloc ?_ _)); exact BK362.out⟩, ⟨by repeat (first | (with_reducible first | exact HB.out | apply below_alloc | apply pw_below_drewN | apply below_drew1 | refine below_set ?_ GE362.out) | exact HB.out)⟩⟩
                    ·rw [if_neg c40] at H
                     exact absurd H (by simp)
                   ·replace c39 := Bool.eq_false_iff.mpr c39
                    subst c39
                    have H1 : (caesuraref11_Match.l3 k5 l1 x6_2 x8_2 x9_5 (wrap64 (x11_4 + 1)) l0_0 l0_1 l0_2 l0_3 a0_4) = some r := by rw [if_neg (show ¬ (false = true) by decide)] at H; exact H
                    clear H
                    have H := H1
                    clear H1
                    have H' := Aside0.mk H
                    clear H
                    obtain ⟨Ao65, co65, eo65⟩ := Kd.R_slice HO_6.out
                    subst eo65
                    have p377 : 0 ≤ (x11_4 : Int) := of_decide_eq_true (by first | (with_reducible assumption) | assumption)
                    have q377 : x11_4 < (x6_2.length : Int) := of_decide_eq_true (by first | (with_reducible assumption) | assumption)
                    obtain ⟨ad377, e377, hx377_0⟩ := Kd.at_bool (Kd.R_reads' HO_6.out).2.2 x11_4 p377 q377
                    (try rw [← Nbq38.out] at hx377_0)
                    cases e377
                    replace p377 := eq_true p377
                    replace q377 := eq_true q377
                    go_wp2
                    go_roundg k5
                    case measure => have := HK1.out; have := HK2.out; have := HK3.out; have := HK4.out; have := HK5.out; omega
                    case rel => exact ⟨(x9_5), (wrap64 (x11_4 + 1)), (by first | rfl | (simp; done) | (simp [*]; done)), H', ⟨by have := HK1.out; have := HK2.out; have := HK3.out; have := HK4.out; have := HK5.out; omega⟩, ⟨by (with_reducible repeat (first | apply Kd.R_alloc | apply Kd.R_drewN | apply Kd.R_drew)); exact HO_6.out⟩, ⟨by (with_reducible repeat (first | apply Kd.R_alloc | apply Kd.R_drewN | apply Kd.R_drew)); exact HO_9.out⟩, ⟨by (with_reducible repeat (first | refine blk_drewN ?_ _ | refine blk_drew ?_ | refine blk_alloc ?_ _)); exact BK362.out⟩, ⟨by repeat (first | (with_reducible first | exact HB.out | apply below_alloc | apply pw_below_drewN | apply below_drew1 | refine below_set ?_ GE362.out) | exact HB.out)⟩⟩
                  ·rw [if_neg c37] at H
                   exact absurd H (by simp)
                 ·rw [if_neg c36] at H
                  exact absurd H (by simp)
              ·rw [if_neg c34] at H
               have c34b0 : decide (x11_4 < (l0_0.length : Int)) = false := decide_eq_false c34
               clear c34
               have H' := Aside0.mk H
               clear H
               have hcz66_0 : wr.cell? ⟨gb362, 0, none⟩ = some (.slice A0_0 l0_0.length c0_0) := (blk_cell BK362.out 0).trans rfl
               have hcz66_1 : wr.cell? ⟨gb362, 1, none⟩ = some (.slice A0_1 l0_1.length c0_1) := (blk_cell BK362.out 1).trans rfl
               have hcz66_2 : wr.cell? ⟨gb362, 2, none⟩ = some (.slice A0_2 l0_2.length c0_2) := (blk_cell BK362.out 2).trans rfl
               have hcz66_3 : wr.cell? ⟨gb362, 3, none⟩ = some (.slice A0_3 l0_3.length c0_3) := (blk_cell BK362.out 3).trans rfl
               have hcz66_4 : wr.cell? ⟨gb362, 4, none⟩ = some (.bool a0_4) := (blk_cell BK362.out 4).trans rfl
               have hfz66_0 := blk_frozen BK362.out 0
               have hfz66_1 := blk_frozen BK362.out 1
               have hfz66_2 := blk_frozen BK362.out 2
               have hfz66_3 := blk_frozen BK362.out 3
               have hfz66_4 := blk_frozen BK362.out 4
               go_wp2
               go_roundg k4
               case measure => have := HK1.out; have := HK2.out; have := HK3.out; have := HK4.out; omega
               case rel => exact ⟨(x9_4), (wrap64 (x8_2 + 1)), (by first | rfl | (simp; done) | (simp [*]; done)), H', ⟨by have := HK1.out; have := HK2.out; have := HK3.out; have := HK4.out; omega⟩, ⟨by (with_reducible repeat (first | apply Kd.R_alloc | apply Kd.R_drewN | apply Kd.R_drew)); exact Kd.R_mono HO_9.out (fun _ hk => trivial)⟩, ⟨by (with_reducible repeat (first | refine blk_drewN ?_ _ | refine blk_drew ?_ | refine blk_alloc ?_ _)); exact BK362.out⟩, ⟨by repeat (first | (with_reducible first | exact HB.out | apply below_alloc | apply pw_below_drewN | apply below_drew1 | refine below_set ?_ GE362.out) | exact HB.out)⟩⟩
        ·rw [if_neg c28] at H
         have c28b0 : decide (x8_2 < (l1.length : Int)) = false := decide_eq_false c28
         clear c28
         have H' := Aside0.mk H
         clear H
         go_wp2
         go_loopg [14] k2 (fun kq v14 w' => ∃ (x14_3 : Int), v14 = .int .i64 x14_3 ∧ Aside0 (caesuraref11_Match.l5 kq x6_2 x14_3 l0_0 l0_1 l0_2 l0_3 a0_4 = some r) ∧ Aside0 (kq ≤ k2) ∧ Aside0 (Kd.R Kd.bool 4 w' w.heap.size (fun _ => True) u6 x6_2) ∧ Aside0 (w'.heap[gb362]? = some (.cells #[(.slice A0_0 l0_0.length c0_0), (.slice A0_1 l0_1.length c0_1), (.slice A0_2 l0_2.length c0_2), (.slice A0_3 l0_3.length c0_3), .bool a0_4] 42 (0, 0))) ∧ Aside0 (Below w.heap.size w w'))
         case atStart => exact ⟨(0), (by first | rfl | (simp; done) | (simp [*]; done)), H', ⟨Nat.le_refl _⟩, ⟨by (with_reducible repeat (first | apply Kd.R_alloc | apply Kd.R_drewN | apply Kd.R_drew)); exact HO_6.out⟩, ⟨by (with_reducible repeat (first | refine blk_drewN ?_ _ | refine blk_drew ?_ | refine blk_alloc ?_ _)); exact BK362.out⟩, ⟨by repeat (first | (with_reducible first | exact HB.out | apply below_alloc | apply pw_below_drewN | apply below_drew1 | refine below_set ?_ GE362.out) | exact HB.out)⟩⟩
         case round =>
          clear H'
          try clear c2
          try clear p2
          try clear c3
          try clear p3
          try clear q3
          try clear hx3
          try clear c4
          try clear p4
          try clear q4
          try clear hx4
          try clear hf4
          try clear c5
          try clear p5
          try clear q5
          try clear hx5
          try clear hf5
          try clear p6
          try clear c8
          try clear c28
          try clear c28b0
          try clear c34
          try clear c34b0
          try clear c36
          try clear c37
          try clear p37
          try clear q37
          try clear hx37
          try clear c38
          try clear p38
          try clear q38
          try clear hx38
          try clear c39
          try clear c40
          try clear c41
          try clear c41b0
          try clear c42
          try clear c43
          try clear c44
          try clear q45
          try clear c46
          try clear p47
          try clear q47
          try clear hx47
          try clear hf47
          try clear c53
          try clear c53b0
          try clear c54
          try clear c54b0
          try clear c55
          try clear c55b0
          try clear p57
          try clear q57
          try clear hx57
          try clear hf57
          try clear p64
          try clear hcz59_0
          try clear hcz59_1
          try clear hcz59_2
          try clear hcz59_3
          try clear hcz59_4
          try clear hcz64_0
          try clear hcz64_1
          try clear hcz64_2
          try clear hcz64_3
          try clear hcz64_4
          try clear hcz66_0
          try clear hcz66_1
          try clear hcz66_2
          try clear hcz66_3
          try clear hcz66_4
          try clear hfz59_0
          try clear hfz59_1
          try clear hfz59_2
          try clear hfz59_3
          try clear hfz59_4
          try clear hfz64_0
          try clear hfz64_1
          try clear hfz64_2
          try clear hfz64_3
          try clear hfz64_4
          try clear hfz66_0
          try clear hfz66_1
          try clear hfz66_2
          try clear hfz66_3
          try clear hfz66_4
          try clear hx377_0
          try clear hx378_0
          try clear hx379_0
          try clear hx380_0
          try clear hx381_0
          try clear hx383_0
          try clear hx384_0
          try clear hx47_0
          try clear hx57_0
          try clear p377
          try clear p378
          try clear p379
          try clear p380
          try clear p381
          try clear p383
          try clear p384
          try clear p47
          try clear p57
          try clear q377
          try clear q378
          try clear q379
          try clear q380
          try clear q381
          try clear q383
          try clear q384
          try clear q47
          try clear q57
          obtain ⟨x14_3, rfl, HA, HK3, HO_6, BK362, HB⟩ := hrel
          cases gk with
          | zero => exact absurd HA.out (by simp [caesuraref11_Match.l5])
          | succ k3 =>
           have H := HA.out
           clear HA
           simp only [caesuraref11_Match.l5] at H
           by_cases c67 : x14_3 < (l0_2.length : Int)
           ·rw [if_pos c67] at H
            have c67b0 : decide (x14_3 < (l0_2.length : Int)) = true := decide_eq_true c67
            clear c67
            by_cases c68 : 0 ≤ x14_3
            ·rw [if_pos c68] at H
             have c68b0 : decide (0 ≤ x14_3) = true := decide_eq_true c68
             clear c68
             by_cases c69 : 0 ≤ (rd l0_2 x14_3)
             ·rw [if_pos c69] at H
              have c69b0 : decide (0 ≤ (rd l0_2 x14_3)) = true := decide_eq_true c69
              clear c69
              by_cases c70 : (rd l0_2 x14_3) < (x6_2.length : Int)
              ·rw [if_pos c70] at H
               have c70b0 : decide ((rd l0_2 x14_3) < (x6_2.length : Int)) = true := decide_eq_true c70
               clear c70
               obtain ⟨bq71, hbq71⟩ : ∃ b_ : Bool, b_ = (rdOf false x6_2 (rd l0_2 x14_3)) := ⟨_, rfl⟩
               replace H : (if bq71 = true then (some true) else (caesuraref11_Match.l5 k3 x6_2 (wrap64 (x14_3 + 1)) l0_0 l0_1 l0_2 l0_3 a0_4)) = some r := by rw [← hbq71] at H; exact H
               have Nbq71 := Aside0.mk hbq71
               clear hbq71
               by_cases c72 : bq71 = true
               ·subst c72
                have H1 : (some true) = some r := by rw [if_pos rfl] at H; exact H
                clear H
                have H := H1
                clear H1
                obtain rfl := Option.some.inj H
                have hcz73_0 : wr.cell? ⟨gb362, 0, none⟩ = some (.slice A0_0 l0_0.length c0_0) := (blk_cell BK362.out 0).trans rfl
                have hcz73_1 : wr.cell? ⟨gb362, 1, none⟩ = some (.slice A0_1 l0_1.length c0_1) := (blk_cell BK362.out 1).trans rfl
                have hcz73_2 : wr.cell? ⟨gb362, 2, none⟩ = some (.slice A0_2 l0_2.length c0_2) := (blk_cell BK362.out 2).trans rfl
                have hcz73_3 : wr.cell? ⟨gb362, 3, none⟩ = some (.slice A0_3 l0_3.length c0_3) := (blk_cell BK362.out 3).trans rfl
                have hcz73_4 : wr.cell? ⟨gb362, 4, none⟩ = some (.bool a0_4) := (blk_cell BK362.out 4).trans rfl
                have hfz73_0 := blk_frozen BK362.out 0
                have hfz73_1 := blk_frozen BK362.out 1
                have hfz73_2 := blk_frozen BK362.out 2
                have hfz73_3 := blk_frozen BK362.out 3
                have hfz73_4 := blk_frozen BK362.out 4
                have p387 : 0 ≤ (x14_3 : Int) := of_decide_eq_true (by first | (with_reducible assumption) | assumption)
                have q387 : x14_3 < (l0_2.length : Int) := of_decide_eq_true (by first | (with_reducible assumption) | assumption)
                obtain ⟨ad387, e387, hx387_0⟩ := Kd.at_int HR0_2.out x14_3 p387 q387
                cases e387
                replace hx387_0 := (HB.out.cell (World.block_lt_of_cell? w _ hx387_0)).trans hx387_0
                replace p387 := eq_true p387
                replace q387 := eq_true q387
                obtain ⟨Ao74, co74, eo74⟩ := Kd.R_slice HO_6.out
                subst eo74
                have p388 : 0 ≤ ((rd l0_2 x14_3) : Int) := of_decide_eq_true (by first | (with_reducible assumption) | assumption)
                have q388 : (rd l0_2 x14_3) < (x6_2.length : Int) := of_decide_eq_true (by first | (with_reducible assumption) | assumption)
                obtain ⟨ad388, e388, hx388_0⟩ := Kd.at_bool (Kd.R_reads' HO_6.out).2.2 (rd l0_2 x14_3) p388 q388
                (try rw [← Nbq71.out] at hx388_0)
                cases e388
                replace p388 := eq_true p388
                replace q388 := eq_true q388
                go_wp2
                go_ret
                exact ⟨by first | rfl | (simp [errW_none, errW_some] <;> rfl) | (simp [*, errW_none, errW_some] <;> rfl), by repeat (first | (with_reducible first | exact HB.out | apply below_alloc | apply pw_below_drewN | apply below_drew1 | refine below_set ?_ GE362.out) | exact HB.out)⟩
               ·replace c72 := Bool.eq_false_iff.mpr c72
                subst c72
                have H1 : (caesuraref11_Match.l5 k3 x6_2 (wrap64 (x14_3 + 1)) l0_0 l0_1 l0_2 l0_3 a0_4) = some r := by rw [if_neg (show ¬ (false = true) by decide)] at H; exact H
                clear H
                have H := H1
                clear H1
                have H' := Aside0.mk H
                clear H
                have hcz75_0 : wr.cell? ⟨gb362, 0, none⟩ = some (.slice A0_0 l0_0.length c0_0) := (blk_cell BK362.out 0).trans rfl
                have hcz75_1 : wr.cell? ⟨gb362, 1, none⟩ = some (.slice A0_1 l0_1.length c0_1) := (blk_cell BK362.out 1).trans rfl
                have hcz75_2 : wr.cell? ⟨gb362, 2, none⟩ = some (.slice A0_2 l0_2.length c0_2) := (blk_cell BK362.out 2).trans rfl
                have hcz75_3 : wr.cell? ⟨gb362, 3, none⟩ = some (.slice A0_3 l0_3.length c0_3) := (blk_cell BK362.out 3).trans rfl
                have hcz75_4 : wr.cell? ⟨gb362, 4, none⟩ = some (.bool a0_4) := (blk_cell BK362.out 4).trans rfl
                have hfz75_0 := blk_frozen BK362.out 0
                have hfz75_1 := blk_frozen BK362.out 1
                have hfz75_2 := blk_frozen BK362.out 2
                have hfz75_3 := blk_frozen BK362.out 3
                have hfz75_4 := blk_frozen BK362.out 4
                have p387 : 0 ≤ (x14_3 : Int) := of_decide_eq_true (by first | (with_reducible assumption) | assumption)
                have q387 : x14_3 < (l0_2.length : Int) := of_decide_eq_true (by first | (with_reducible assumption) | assumption)
                obtain ⟨ad387, e387, hx387_0⟩ := Kd.at_int HR0_2.out x14_3 p387 q387
                cases e387
                replace hx387_0 := (HB.out.cell (World.block_lt_of_cell? w _ hx387_0)).trans hx387_0
                replace p387 := eq_true p387
                replace q387 := eq_true q387
                obtain ⟨Ao76, co76, eo76⟩ := Kd.R_slice HO_6.out
                subst eo76
                have p388 : 0 ≤ ((rd l0_2 x14_3) : Int) := of_decide_eq_true (by first | (with_reducible assumption) | assumption)
                have q388 : (rd l0_2 x14_3) < (x6_2.length : Int) := of_decide_eq_true (by first | (with_reducible assumption) | assumption)
                obtain ⟨ad388, e388, hx388_0⟩ := Kd.at_bool (Kd.R_reads' HO_6.out).2.2 (rd l0_2 x14_3) p388 q388
                (try rw [← Nbq71.out] at hx388_0)
                cases e388
                replace p388 := eq_true p388
                replace q388 := eq_true q388
                go_wp2
                go_roundg k3
                case measure => have := HK1.out; have := HK2.out; have := HK3.out; omega
                case rel => exact ⟨(wrap64 (x14_3 + 1)), (by first | rfl | (simp; done) | (simp [*]; done)), H', ⟨by have := HK1.out; have := HK2.out; have := HK3.out; omega⟩, ⟨by (with_reducible repeat (first | apply Kd.R_alloc | apply Kd.R_drewN | apply Kd.R_drew)); exact HO_6.out⟩, ⟨by (with_reducible repeat (first | refine blk_drewN ?_ _ | refine blk_drew ?_ | refine blk_alloc ?_ _)); exact BK362.out⟩, ⟨by repeat (first | (with_reducible first | exact HB.out | apply below_alloc | apply pw_below_drewN | apply below_drew1 | refine below_set ?_ GE362.out) | exact HB.out)⟩⟩
              ·rw [if_neg c70] at H
               exact absurd H (by simp)
             ·rw [if_neg c69] at H
              exact absurd H (by simp)
            ·rw [if_neg c68] at H
             exact absurd H (by simp)
           ·rw [if_neg c67] at H
            have c67b0 : decide (x14_3 < (l0_2.length : Int)) = false := decide_eq_false c67
            clear c67
            obtain rfl := Option.some.inj H
            have hcz77_0 : wr.cell? ⟨gb362, 0, none⟩ = some (.slice A0_0 l0_0.length c0_0) := (blk_cell BK362.out 0).trans rfl
            have hcz77_1 : wr.cell? ⟨gb362, 1, none⟩ = some (.slice A0_1 l0_1.length c0_1) := (blk_cell BK362.out 1).trans rfl
            have hcz77_2 : wr.cell? ⟨gb362, 2, none⟩ = some (.slice A0_2 l0_2.length c0_2) := (blk_cell BK362.out 2).trans rfl
            have hcz77_3 : wr.cell? ⟨gb362, 3, none⟩ = some (.slice A0_3 l0_3.length c0_3) := (blk_cell BK362.out 3).trans rfl
            have hcz77_4 : wr.cell? ⟨gb362, 4, none⟩ = some (.bool a0_4) := (blk_cell BK362.out 4).trans rfl
            have hfz77_0 := blk_frozen BK362.out 0
            have hfz77_1 := blk_frozen BK362.out 1
            have hfz77_2 := blk_frozen BK362.out 2
            have hfz77_3 := blk_frozen BK362.out 3
            have hfz77_4 := blk_frozen BK362.out 4
            go_wp2
            go_ret
            exact ⟨by first | rfl | (simp [errW_none, errW_some] <;> rfl) | (simp [*, errW_none, errW_some] <;> rfl), by repeat (first | (with_reducible first | exact HB.out | apply below_alloc | apply pw_below_drewN | apply below_drew1 | refine below_set ?_ GE362.out) | exact HB.out)⟩
 ·replace c4 := Bool.eq_false_iff.mpr c4
  subst c4
  have H1 : (some false) = some r := by rw [if_neg (show ¬ (false = true) by decide)] at H; exact H
  clear H
  have H := H1
  clear H1
  obtain rfl := Option.some.inj H
  go_enter Tryd.func30, Tryd.ntmps30
  go_wp2_with (first | ((with_reducible refine gate_dst (N := 2) rfl ?_); (try (refine gate_guard (by rfl) ?_; dsimp only)); refine box_event ?hg (N := 2) ?hd (cs := #[.slice A0_0 l0_0.length c0_0, .slice A0_1 l0_1.length c0_1, .slice A0_2 l0_2.length c0_2, .slice A0_3 l0_3.length c0_3, .bool a0_4]) (t := 42) ?hr ?_; (case hd => rfl); (case hg => rfl); (case hr => first | (go_simp; done) | (go_simp; rfl)); intro gb362 hg w78 hbox hb; have n0_ := Aside0.mk (below_step (by repeat (first | (with_reducible first | exact HB.out | apply below_alloc | apply pw_below_drewN | apply below_drew1) | exact HB.out)) hb); have n1_ := Aside0.mk (hbox); have n2_ := Aside0.mk ((by rw [hg]; exact (below_size (by repeat (first | (with_reducible first | exact HB.out | apply below_alloc | apply pw_below_drewN | apply below_drew1) | exact HB.out))) : w.heap.size ≤ gb362)); have n3_ := Aside0.mk ((by rw [hg]; exact (below_size (by repeat (first | (with_reducible first | exact HB.out | apply below_alloc | apply pw_below_drewN | apply below_drew1) | exact HB.out))) : w.heap.size ≤ gb362)); clear HB; have HB := n0_; have BK362 := n1_; have GW362 := n2_; have GE362 := n3_; clear n0_ n1_ n2_ n3_; clear hb hbox hg; have hcz79_0 : w78.cell? ⟨gb362, 0, none⟩ = some (.slice A0_0 l0_0.length c0_0) := (blk_cell BK362.out 0).trans rfl; have hcz79_1 : w78.cell? ⟨gb362, 1, none⟩ = some (.slice A0_1 l0_1.length c0_1) := (blk_cell BK362.out 1).trans rfl; have hcz79_2 : w78.cell? ⟨gb362, 2, none⟩ = some (.slice A0_2 l0_2.length c0_2) := (blk_cell BK362.out 2).trans rfl; have hcz79_3 : w78.cell? ⟨gb362, 3, none⟩ = some (.slice A0_3 l0_3.length c0_3) := (blk_cell BK362.out 3).trans rfl; have hcz79_4 : w78.cell? ⟨gb362, 4, none⟩ = some (.bool a0_4) := (blk_cell BK362.out 4).trans rfl; have hfz79_0 := blk_frozen BK362.out 0; have hfz79_1 := blk_frozen BK362.out 1; have hfz79_2 := blk_frozen BK362.out 2; have hfz79_3 := blk_frozen BK362.out 3; have hfz79_4 := blk_frozen BK362.out 4) | ((with_reducible refine gate_callee (f := 84) rfl ?_); refine goesL_ (some 16) rfl rfl Tryd.func84 (by kernel_rfl) rfl #[.agg #[.slice A0_0 l0_0.length c0_0, .slice A0_1 l0_1.length c0_1, .slice A0_2 l0_2.length c0_2, .slice A0_3 l0_3.length c0_3, .bool a0_4]] rfl (by (try simp only [List.map_toArray, List.map_cons, List.map_nil]); first | done | rfl | (simp only [List.length_drop, List.length_take]; rfl)) ?_; (with_reducible refine (caesuraref11_sound.calls k _ _ l0_0 _ _ l0_1 _ _ l0_2 _ _ l0_3 a0_4 false _ ?side1 ?side2 ?side3 ?side4 ?side5 ?side6 ?side7 ?side8 A3.out).mono ?_); (case side1 => repeat (first | exact (Kd.C_below HR0_0.out HB.out) | (with_reducible refine Kd.C_alloc ?_ _) | (with_reducible refine Kd.C_drewN ?_ _) | (with_reducible refine Kd.C_drew ?_))); (case side2 => exact HC0_0.out); (case side3 => repeat (first | exact (Kd.C_below HR0_1.out HB.out) | (with_reducible refine Kd.C_alloc ?_ _) | (with_reducible refine Kd.C_drewN ?_ _) | (with_reducible refine Kd.C_drew ?_))); (case side4 => exact HC0_1.out); (case side5 => repeat (first | exact (Kd.C_below HR0_2.out HB.out) | (with_reducible refine Kd.C_alloc ?_ _) | (with_reducible refine Kd.C_drewN ?_ _) | (with_reducible refine Kd.C_drew ?_))); (case side6 => exact HC0_2.out); (case side7 => repeat (first | exact (Kd.C_below HR0_3.out HB.out) | (with_reducible refine Kd.C_alloc ?_ _) | (with_reducible refine Kd.C_drewN ?_ _) | (with_reducible refine Kd.C_drew ?_))); (case side8 => exact HC0_3.out); rintro e w80 ⟨rfl, hb⟩; refine ⟨_, rfl, ?_⟩; have n0_ := Aside0.mk (blk_below (g := gb362) (o := .cells #[.slice A0_0 l0_0.length c0_0, .slice A0_1 l0_1.length c0_1, .slice A0_2 l0_2.length c0_2, .slice A0_3 l0_3.length c0_3, .bool a0_4] 42 (0, 0)) (by (with_reducible repeat (first | refine blk_drewN ?_ _ | refine blk_drew ?_ | refine blk_alloc ?_ _)); exact BK362.out) hb); have n1_ := Aside0.mk (below_step (by repeat (first | (with_reducible first | exact HB.out | apply below_alloc | apply pw_below_drewN | apply below_drew1 | refine below_set ?_ GE362.out) | exact HB.out)) hb); clear BK362; clear HB; have BK362 := n0_; have HB := n1_; clear n0_ n1_; (try clear hb); (try clear hb2); (try clear hk); (try clear hi)))
  go_ret
  exact ⟨by first | rfl | (simp [errW_none, errW_some] <;> rfl) | (simp [*, errW_none, errW_some] <;> rfl), by repeat (first | (with_reducible first | exact HB.out | apply below_alloc | apply pw_below_drewN | apply below_drew1 | refine below_set ?_ GE362.out) | exact HB.out)⟩

end Go.Proofs.YtfonajakaimnoaaDoor.Lib

/- The document's Match: its inner loops. -/
namespace Go.Proofs.YtfonajakaimnoaaDoor.C11
open Go.RowKit Go.Proofs.YtfonajakaimnoaaDoorW.PrintWords Go.Proofs.YtfonajakaimnoaaDoorW.PrintLast Go.Proofs.YtfonajakaimnoaaDoorW.PrintMore Go.Proofs.YtfonajakaimnoaaDoor.Lib Lent Go.Proofs.YtfonajakaimnoaaDoor.Fn
set_option linter.unusedVariables false
set_option linter.unusedSimpArgs false

theorem doc_l5 (L : LL) (F La : List Int) (Fo : LL) (b : Bool) (now : List Bool) (hn : ∀ q ∈ La, 0 ≤ q ∧ q < (now.length : Int)) (hl : La.length ≤ 9223372036854775807) : ∀ (d i k : Nat), i ≤ La.length → La.length - i = d → d < k →
  caesuraref11_Match.l5 k now i L F La Fo b = some ((La.drop i).any fun q => now.getD q.toNat false) := by
 intro d
 induction d with
 | zero =>
  intro i k hi hd hk
  obtain ⟨k, rfl⟩ : ∃ m, k = m + 1 := ⟨k - 1, by omega⟩
  simp only [caesuraref11_Match.l5]
  rw [if_neg (by omega), List.drop_of_length_le (by omega)]
  rfl
 | succ d ih =>
  intro i k hi hd hk
  obtain ⟨k, rfl⟩ : ∃ m, k = m + 1 := ⟨k - 1, by omega⟩
  have hil : i < La.length := by omega
  have hw : wrap64 ((i : Int) + 1) = ((i + 1 : Nat) : Int) := by rw [wrap_succ (n := La.length) (by omega) (by omega) (by omega)]; omega
  have hq := hn La[i] (List.getElem_mem hil)
  simp only [caesuraref11_Match.l5]
  rw [if_pos (by omega), if_pos (by omega), rd_at La i hil, if_pos hq.1, if_pos hq.2, List.drop_eq_getElem_cons hil, List.any_cons]
  show (if now.getD (La[i]).toNat false = true then _ else _) = _
  by_cases h : now.getD (La[i]).toNat false = true
  ·rw [if_pos h, h, Bool.true_or]
  ·rw [if_neg h, hw, ih (i + 1) k (by omega) (by omega) (by omega), show now.getD (La[i]).toNat false = false by simpa using h, Bool.false_or]
end Go.Proofs.YtfonajakaimnoaaDoor.C11

/- What is reached, as lists of truths. -/
namespace Go.Proofs.YtfonajakaimnoaaDoor.C11
open Go.RowKit Go.Proofs.YtfonajakaimnoaaDoorW.PrintWords Go.Proofs.YtfonajakaimnoaaDoorW.PrintLast Go.Proofs.YtfonajakaimnoaaDoorW.PrintMore Go.Proofs.YtfonajakaimnoaaDoor.Lib Lent Go.Proofs.YtfonajakaimnoaaDoor.Fn
set_option linter.unusedVariables false
set_option linter.unusedSimpArgs false

theorem any_isB (c : Int) (l : List Int) : l.any (isB c) = true ↔ c ∈ l := by
 rw [List.any_eq_true]
 constructor
 ·rintro ⟨x, hx, h⟩
  have : c = x := by simpa [isB] using h
  rw [this]; exact hx
 ·exact fun h => ⟨c, h, by simp [isB]⟩
theorem getD_set (l : List Bool) (z q : Nat) (v : Bool) (hz : z < l.length) : (l.set z v).getD q false = if q = z then v else l.getD q false := by
 rw [List.getD_eq_getElem?_getD]
 by_cases h : q = z
 ·subst h
  rw [List.getElem?_set_self hz, if_pos rfl]; rfl
 ·rw [List.getElem?_set_ne (fun e => h e.symm), if_neg h, List.getD_eq_getElem?_getD]
theorem reachL_get (L : LL) (c : Int) : ∀ (l : List Int) (next : List Bool), (∀ x ∈ l, 0 ≤ x ∧ x < (next.length : Int)) → ∀ q : Nat,
  ((reachL L c next l).getD q false = true ↔ next.getD q false = true ∨ ((q : Int) ∈ l ∧ c ∈ L.getD q [])) := by
 intro l
 induction l with
 | nil => intro next _ q; simp [reachL]
 | cons z r ih =>
  intro next hb q
  have hz := hb z List.mem_cons_self
  obtain ⟨z, rfl⟩ := Int.eq_ofNat_of_zero_le hz.1
  have hzl : z < next.length := by omega
  have := ih (hit L c next (z : Int)) (fun x hx => by rw [hit_length]; exact hb x (List.mem_cons_of_mem _ hx)) q
  show (reachL L c (hit L c next (z : Int)) r).getD q false = true ↔ _
  rw [this]
  have hh : (hit L c next (z : Int)).getD q false = if q = z then (next.getD z false || (L.getD z []).any (isB c)) else next.getD q false := getD_set next z q _ hzl
  rw [hh]
  by_cases h : q = z
  ·subst h
   rw [if_pos rfl, Bool.or_eq_true, any_isB]
   constructor
   ·rintro ((h1 | h1) | h1)
    ·exact .inl h1
    ·exact .inr ⟨List.mem_cons_self, h1⟩
    ·exact .inr ⟨List.mem_cons_of_mem _ h1.1, h1.2⟩
   ·rintro (h1 | h1)
    ·exact .inl (.inl h1)
    ·exact .inl (.inr h1.2)
  ·rw [if_neg h]
   constructor
   ·rintro (h1 | h1)
    ·exact .inl h1
    ·exact .inr ⟨List.mem_cons_of_mem _ h1.1, h1.2⟩
   ·rintro (h1 | ⟨h1, h2⟩)
    ·exact .inl h1
    ·rcases List.mem_cons.1 h1 with e | e
     ·exact absurd (by omega) h
     ·exact .inr ⟨e, h2⟩
theorem bools_ext {l r : List Bool} (hl : l.length = r.length) (h : ∀ q, q < l.length → (l.getD q false = true ↔ r.getD q false = true)) : l = r := by
 apply List.ext_getElem hl
 intro q h1 h2
 have := h q h1
 rw [List.getD_eq_getElem?_getD, List.getElem?_eq_getElem h1, List.getD_eq_getElem?_getD, List.getElem?_eq_getElem h2] at this
 rw [Bool.eq_iff_iff]
 exact this
theorem rep_false (n q : Nat) : (List.replicate n false).getD q false = false := by
 rw [List.getD_eq_getElem?_getD, List.getElem?_replicate]
 split <;> rfl
/-- the places that a word may begin at -/
def beginB (L : LL) (F : List Int) (c : Int) (q : Nat) : Bool := F.any (isB q) && (L.getD q []).any (isB c)
theorem begin_eq (L : LL) (F : List Int) (c : Int) (hF : ∀ x ∈ F, 0 ≤ x ∧ x < (L.length : Int)) : reachL L c (List.replicate L.length false) F = (List.range L.length).map (beginB L F c) := by
 apply bools_ext
 ·rw [reachL_length]; simp
 ·intro q hq
  rw [reachL_length, List.length_replicate] at hq
  have e : ((List.range L.length).map (beginB L F c)).getD q false = beginB L F c q := by
   rw [List.getD_eq_getElem?_getD, List.getElem?_map, List.getElem?_range hq]
   rfl
  rw [reachL_get L c F _ (by rw [List.length_replicate]; exact hF) q, rep_false, e]
  simp only [beginB, Bool.and_eq_true, any_isB, Bool.false_eq_true, false_or]
theorem inK_none (L Fo : LL) (c : Int) (n : Nat) (next : List Bool) (k : Nat) : inK L Fo c (List.replicate n false) next k = next := by
 induction k with
 | zero => rfl
 | succ k ih => simp only [inK, rep_false, Bool.false_eq_true, if_false, ih]
/-- behind the first symbol -/
theorem atK_one (L : LL) (F : List Int) (Fo : LL) (word : List Int) (hF : ∀ x ∈ F, 0 ≤ x ∧ x < (L.length : Int)) : atK L F Fo word 1 = (List.range L.length).map (beginB L F (word.getD 0 0)) := by
 rw [← begin_eq L F _ hF]
 simp only [atK, begin, if_true, inK_none]
theorem atK_next (L : LL) (F : List Int) (Fo : LL) (word : List Int) (k : Nat) (hk : 0 < k) : atK L F Fo word (k + 1) = inK L Fo (word.getD k 0) (atK L F Fo word k) (List.replicate L.length false) L.length := by
 simp only [atK, begin, if_neg (show ¬ k = 0 by omega)]
end Go.Proofs.YtfonajakaimnoaaDoor.C11

/- The document's Match comes to the plain question. -/
namespace Go.Proofs.YtfonajakaimnoaaDoor.C11
open Go.RowKit Go.Proofs.YtfonajakaimnoaaDoorW.PrintWords Go.Proofs.YtfonajakaimnoaaDoorW.PrintLast Go.Proofs.YtfonajakaimnoaaDoorW.PrintMore Go.Proofs.YtfonajakaimnoaaDoor.Lib Lent Go.Proofs.YtfonajakaimnoaaDoor.Fn
set_option linter.unusedVariables false
set_option linter.unusedSimpArgs false

theorem row_or {α : Type} (L : List (List α)) (k : Nat) : L.getD k [] = [] ∨ L.getD k [] ∈ L := by
 rw [List.getD_eq_getElem?_getD]
 cases h : L[k]? with
 | none => exact .inl rfl
 | some y => exact .inr (List.mem_of_getElem? h)
theorem row_len {L : LL} (h : ∀ x ∈ L, x.length ≤ 9223372036854775807) (k : Nat) : (L.getD k []).length ≤ 9223372036854775807 := by
 rcases row_or L k with e | e
 ·rw [e]; simp
 ·exact h _ e
section
variable (L : LL) (F La : List Int) (Fo : LL) (b : Bool) (word : List Int) (now : List Bool)
set_option maxHeartbeats 400000 in
theorem doc_l4 (i q : Nat) (r : Bool) (row : List Int) (c : Int) (hi : (i : Int) < (word.length : Int)) (hq : (q : Int) < (Fo.length : Int)) (hqn : (q : Int) < (now.length : Int)) (hnow : rdOf false now (q : Int) = true)
  (hrd : rd_L1 Fo (q : Int) = row) (hc : rd word (i : Int) = c)
  (hrow : ∀ x ∈ row, 0 ≤ x ∧ x < (L.length : Int)) (hrl : row.length ≤ 9223372036854775807) (hLr : ∀ x ∈ L, x.length ≤ 9223372036854775807) :
  ∀ (d j : Nat) (next : List Bool), j ≤ row.length → row.length - j = d → next.length = L.length →
   Ev (fun k => caesuraref11_Match.l3 k word now i (reachL L c next (row.drop j)) (wrap64 ((q : Int) + 1)) L F La Fo b) r →
   Ev (fun k => caesuraref11_Match.l4 k word now i next q j L F La Fo b) r := by
 intro d
 have hq0 : (0 : Int) ≤ (q : Int) := by omega
 have hi0 : (0 : Int) ≤ (i : Int) := by omega
 induction d with
 | zero =>
  intro j next hj hd hn h
  rw [List.drop_of_length_le (by omega), show reachL L c next [] = next from rfl] at h
  have hjn : ¬ (j : Int) < (row.length : Int) := by omega
  refine Ev.step (f := fun k => caesuraref11_Match.l3 k word now i next (wrap64 ((q : Int) + 1)) L F La Fo b) (fun k => ?_) h
  conv => lhs; unfold caesuraref11_Match.l4
  rw [hrd, if_pos hq0, if_pos hqn, if_pos hnow, if_pos hq, if_neg hjn]
 | succ d ih =>
  intro j next hj hd hn h
  have hjl : j < row.length := by omega
  have hjz : (j : Int) < (row.length : Int) := by omega
  have hj0 : (0 : Int) ≤ (j : Int) := by omega
  have hx := hrow _ (List.getElem_mem hjl)
  rw [List.drop_eq_getElem_cons hjl] at h
  have hrx : rd row (j : Int) = row[j] := rd_at _ _ hjl
  generalize row[j] = x at hx h hrx
  rw [show reachL L c next (x :: row.drop (j + 1)) = reachL L c (hit L c next x) (row.drop (j + 1)) from rfl] at h
  have hnext := ih (j + 1) (hit L c next x) (by omega) (by omega) (by rw [hit_length]; exact hn) h
  have hLx := row_len hLr x.toNat
  have hxn : x < (next.length : Int) := by rw [hn]; exact hx.2
  have hw : wrap64 ((j : Int) + 1) = ((j + 1 : Nat) : Int) := by rw [wrap_succ (n := row.length) (by omega) (by omega) (by omega)]; omega
  by_cases hb : rdOf false next x = true
  ·have he : hit L c next x = next.set x.toNat true := by
    unfold hit
    rw [show next.getD x.toNat false = true from hb, Bool.true_or]
   rw [he] at hnext
   refine Ev.step (f := fun k => caesuraref11_Match.l4 k word now i (next.set x.toNat true) q ((j + 1 : Nat) : Int) L F La Fo b) (fun k => ?_) hnext
   conv => lhs; unfold caesuraref11_Match.l4
   rw [hrd, if_pos hq0, if_pos hqn, if_pos hnow, if_pos hq, if_pos hjz, if_pos hj0, hrx, if_pos hx.1, if_pos hxn, if_pos hb, hw]
  ·have he : hit L c next x = next.set x.toNat ((L.getD x.toNat []).any (isB c)) := by
    unfold hit
    rw [show next.getD x.toNat false = false from (Bool.not_eq_true _).mp hb, Bool.false_or]
   rw [he] at hnext
   refine Ev.step (f := fun k => (caesuraref11_has.f k (rd_L1 L x) c).bind fun t => caesuraref11_Match.l4 k word now i (next.set x.toNat t) q ((j + 1 : Nat) : Int) L F La Fo b) (fun k => ?_) (Ev.bind (doc_has_ev (L.getD x.toNat []) c hLx) hnext)
   conv => lhs; unfold caesuraref11_Match.l4
   rw [hrd, if_pos hq0, if_pos hqn, if_pos hnow, if_pos hq, if_pos hjz, if_pos hj0, hrx, if_pos hx.1, if_pos hxn, if_neg hb, if_pos hx.2, if_pos hi0, if_pos hi, hw, hc]
set_option maxHeartbeats 400000 in
theorem doc_l3 (i : Nat) (r : Bool) (c : Int) (next0 : List Bool) (hi : (i : Int) < (word.length : Int)) (hFo : Fo.length = L.length) (hL : L.length ≤ 5864062014634) (hnl : now.length = L.length) (hc : rd word (i : Int) = c) (hn0 : next0.length = L.length)
  (hrows : ∀ l ∈ Fo, ∀ x ∈ l, 0 ≤ x ∧ x < (L.length : Int)) (hFr : ∀ x ∈ Fo, x.length ≤ 9223372036854775807) (hLr : ∀ x ∈ L, x.length ≤ 9223372036854775807)
  (h : Ev (fun k => caesuraref11_Match.l1 k word (inK L Fo c now next0 L.length) (wrap64 ((i : Int) + 1)) L F La Fo b) r) :
  ∀ (d q : Nat), q ≤ L.length → L.length - q = d → Ev (fun k => caesuraref11_Match.l3 k word now i (inK L Fo c now next0 q) q L F La Fo b) r := by
 intro d
 induction d with
 | zero =>
  intro q hq hd
  obtain rfl : q = L.length := by omega
  have hn : ¬ (L.length : Int) < (L.length : Int) := by omega
  refine Ev.step (f := fun k => caesuraref11_Match.l1 k word (inK L Fo c now next0 L.length) (wrap64 ((i : Int) + 1)) L F La Fo b) (fun k => ?_) h
  conv => lhs; unfold caesuraref11_Match.l3
  rw [if_neg hn]
 | succ d ih =>
  intro q hq hd
  have hqz : (q : Int) < (L.length : Int) := by omega
  have hq0 : (0 : Int) ≤ (q : Int) := by omega
  have hqn : (q : Int) < (now.length : Int) := by omega
  have hqF : (q : Int) < (Fo.length : Int) := by omega
  have hnext := ih (q + 1) (by omega) (by omega)
  have hrow : ∀ x ∈ Fo.getD q [], 0 ≤ x ∧ x < (L.length : Int) := by
   rcases row_or Fo q with e | e
   ·rw [e]; exact fun x hx => by cases hx
   ·exact hrows _ e
  have hrl := row_len hFr q
  have hil := inK_length L Fo c now next0 q
  have hs : 0 ≤ (Fo.getD q []).length ∧ (Fo.getD q []).length - 0 = (Fo.getD q []).length := ⟨Nat.zero_le _, rfl⟩
  have hw : wrap64 ((q : Int) + 1) = ((q + 1 : Nat) : Int) := by rw [wrap_succ (n := L.length) (by omega) (by omega) (by omega)]; omega
  refine Ev.step (f := fun k => caesuraref11_Match.l4 k word now i (inK L Fo c now next0 q) q ((0 : Nat) : Int) L F La Fo b) (fun k => ?_) ?_
  ·conv => lhs; unfold caesuraref11_Match.l3
   rw [if_pos hqz]
   rfl
  ·by_cases hb : rdOf false now (q : Int) = true
   ·refine doc_l4 L F La Fo b word now i q r (Fo.getD q []) c hi hqF hqn hb rfl hc hrow hrl hLr (Fo.getD q []).length 0 _ hs.1 hs.2 (hil.trans hn0) ?_
    rw [List.drop_zero, hw]
    rw [show inK L Fo c now next0 (q + 1) = reachL L c (inK L Fo c now next0 q) (Fo.getD q []) from by
     simp only [inK]
     rw [if_pos (show now.getD q false = true from hb)]] at hnext
    exact hnext
   ·rw [show inK L Fo c now next0 (q + 1) = inK L Fo c now next0 q from by
     simp only [inK]
     rw [if_neg (show ¬ now.getD q false = true from hb)]] at hnext
    refine Ev.step (f := fun k => caesuraref11_Match.l3 k word now i (inK L Fo c now next0 q) ((q + 1 : Nat) : Int) L F La Fo b) (fun k => ?_) hnext
    conv => lhs; unfold caesuraref11_Match.l4
    rw [if_pos hq0, if_pos hqn, if_neg hb, hw]
set_option maxHeartbeats 400000 in
theorem doc_l2 (i : Nat) (r : Bool) (hL : L.length ≤ 5864062014634)
  (h : Ev (fun k => caesuraref11_Match.l3 k word now i (List.replicate L.length false) ((0 : Nat) : Int) L F La Fo b) r) :
  ∀ (d j : Nat), j ≤ L.length → L.length - j = d → Ev (fun k => caesuraref11_Match.l2 k word now i (List.replicate j false) j L F La Fo b) r := by
 intro d
 induction d with
 | zero =>
  intro j hj hd
  obtain rfl : j = L.length := by omega
  have hn : ¬ (L.length : Int) < (L.length : Int) := by omega
  refine Ev.step (fun k => ?_) h
  conv => lhs; unfold caesuraref11_Match.l2
  rw [if_neg hn]
  rfl
 | succ d ih =>
  intro j hj hd
  have hjz : (j : Int) < (L.length : Int) := by omega
  have hrl : (List.replicate j false).length < 140737488355328 := by rw [List.length_replicate]; omega
  have hnext := ih (j + 1) (by omega) (by omega)
  rw [List.replicate_succ'] at hnext
  have hw : wrap64 ((j : Int) + 1) = ((j + 1 : Nat) : Int) := by rw [wrap_succ (n := L.length) (by omega) (by omega) (by omega)]; omega
  refine Ev.step (fun k => ?_) hnext
  conv => lhs; unfold caesuraref11_Match.l2
  rw [if_pos hjz, if_pos hrl, hw]
end
section
variable (L : LL) (F La : List Int) (Fo : LL) (b : Bool) (word : List Int)
set_option maxHeartbeats 400000 in
theorem doc_l1 (hFo : Fo.length = L.length) (hL : L.length ≤ 5864062014634) (hrows : ∀ l ∈ Fo, ∀ x ∈ l, 0 ≤ x ∧ x < (L.length : Int)) (hLa : ∀ x ∈ La, 0 ≤ x ∧ x < (L.length : Int)) (hLal : La.length ≤ 9223372036854775807) (hFr : ∀ x ∈ Fo, x.length ≤ 9223372036854775807) (hLr : ∀ x ∈ L, x.length ≤ 9223372036854775807) (hwl : word.length ≤ 9223372036854775807) :
  ∀ (d i : Nat), 0 < i → i ≤ word.length → word.length - i = d → Ev (fun k => caesuraref11_Match.l1 k word (atK L F Fo word i) i L F La Fo b) (La.any fun q => (atK L F Fo word word.length).getD q.toNat false) := by
 intro d
 induction d with
 | zero =>
  intro i hi0 hi hd
  obtain rfl : i = word.length := by omega
  have hn : ¬ (word.length : Int) < (word.length : Int) := by omega
  refine Ev.step (f := fun k => caesuraref11_Match.l5 k (atK L F Fo word word.length) ((0 : Nat) : Int) L F La Fo b) (fun k => ?_) ⟨La.length + 1, fun k hk => ?_⟩
  ·conv => lhs; unfold caesuraref11_Match.l1
   rw [if_neg hn]
   rfl
  ·show caesuraref11_Match.l5 k (atK L F Fo word word.length) ((0 : Nat) : Int) L F La Fo b = _
   exact doc_l5 L F La Fo b _ (by rw [atK_length]; exact hLa) hLal La.length 0 k (by omega) (by omega) (by omega)
 | succ d ih =>
  intro i hi0 hi hd
  have hiz : (i : Int) < (word.length : Int) := by omega
  have hnext := ih (i + 1) (by omega) (by omega) (by omega)
  rw [atK_next L F Fo word i hi0] at hnext
  have hw : wrap64 ((i : Int) + 1) = ((i + 1 : Nat) : Int) := by rw [wrap_succ (n := word.length) (by omega) (by omega) (by omega)]; omega
  rw [← hw] at hnext
  refine Ev.step (f := fun k => caesuraref11_Match.l2 k word (atK L F Fo word i) i (List.replicate 0 false) ((0 : Nat) : Int) L F La Fo b) (fun k => ?_) (doc_l2 L F La Fo b word (atK L F Fo word i) i _ hL ?_ L.length 0 (Nat.zero_le _) rfl)
  ·conv => lhs; unfold caesuraref11_Match.l1
   rw [if_pos hiz]
   rfl
  ·exact doc_l3 L F La Fo b word (atK L F Fo word i) i _ (word.getD i 0) (List.replicate L.length false) hiz hFo hL (atK_length _ _ _ _ _) rfl (List.length_replicate ..) hrows hFr hLr hnext L.length 0 (Nat.zero_le _) rfl
set_option maxHeartbeats 400000 in
theorem doc_l0 (r : Bool) (hL : L.length ≤ 5864062014634) (hFl : F.length ≤ 9223372036854775807) (hLr : ∀ x ∈ L, x.length ≤ 9223372036854775807) (hwl : 0 < word.length)
  (h : Ev (fun k => caesuraref11_Match.l1 k word ((List.range L.length).map (beginB L F (word.getD 0 0))) ((1 : Nat) : Int) L F La Fo b) r) :
  ∀ (d q : Nat), q ≤ L.length → L.length - q = d → Ev (fun k => caesuraref11_Match.l0 k word ((List.range q).map (beginB L F (word.getD 0 0))) q L F La Fo b) r := by
 intro d
 have hw0 : (0 : Int) < (word.length : Int) := by omega
 induction d with
 | zero =>
  intro q hq hd
  obtain rfl : q = L.length := by omega
  have hn : ¬ (L.length : Int) < (L.length : Int) := by omega
  refine Ev.step (fun k => ?_) h
  conv => lhs; unfold caesuraref11_Match.l0
  rw [if_neg hn]
  rfl
 | succ d ih =>
  intro q hq hd
  have hqz : (q : Int) < (L.length : Int) := by omega
  have hq0 : (0 : Int) ≤ (q : Int) := by omega
  have hrl : ((List.range q).map (beginB L F (word.getD 0 0))).length < 140737488355328 := by simp; omega
  have hnext := ih (q + 1) (by omega) (by omega)
  rw [List.range_succ, List.map_append, List.map_singleton] at hnext
  have hLx := row_len hLr q
  have hw : wrap64 ((q : Int) + 1) = ((q + 1 : Nat) : Int) := by rw [wrap_succ (n := L.length) (by omega) (by omega) (by omega)]; omega
  generalize hB : beginB L F (word.getD 0 0) q = v at hnext
  have hb : v = (F.any (isB q) && (L.getD q []).any (isB (word.getD 0 0))) := hB.symm
  clear hB
  generalize (List.range q).map (beginB L F (word.getD 0 0)) = acc at hrl hnext ⊢
  refine Ev.step (f := fun k => (caesuraref11_has.f k F q).bind fun t => if t = true then ((caesuraref11_has.f k (L.getD q []) (word.getD 0 0)).bind fun t2 => caesuraref11_Match.l0 k word (acc ++ [t2]) ((q + 1 : Nat) : Int) L F La Fo b) else caesuraref11_Match.l0 k word (acc ++ [false]) ((q + 1 : Nat) : Int) L F La Fo b) (fun k => ?_) (Ev.bind (doc_has_ev F q hFl) ?_)
  ·conv => lhs; unfold caesuraref11_Match.l0
   rw [if_pos hqz, if_pos hq0, if_pos hw0, hw]
   simp only [if_pos hrl]
   rfl
  ·cases h1 : F.any (isB (q : Int)) with
   | true =>
    rw [h1, Bool.true_and] at hb
    subst hb
    exact Ev.congr (fun k => if_pos rfl) (Ev.bind (doc_has_ev (L.getD q []) _ hLx) hnext)
   | false =>
    rw [h1, Bool.false_and] at hb
    subst hb
    exact Ev.congr (fun k => if_neg (by decide)) hnext
/-- The document's Match is the plain question. -/
theorem doc_match_ev (hL : L.length ≤ 5864062014634) (hFo : Fo.length ≤ 9223372036854775807) (hFl : F.length ≤ 9223372036854775807) (hLal : La.length ≤ 9223372036854775807) (hFr : ∀ x ∈ Fo, x.length ≤ 9223372036854775807) (hLr : ∀ x ∈ L, x.length ≤ 9223372036854775807) (hwl : word.length ≤ 9223372036854775807) :
  Ev (fun k => caesuraref11_Match.f k L F La Fo b word) (matchB L F La Fo b word) := by
 unfold caesuraref11_Match.f
 refine Ev.bind (doc_sound_ev L F La Fo b hFl hLal hFo hFr) ?_
 unfold matchB
 cases hP : placedB L F La Fo with
 | false => exact Ev.congr (fun k => if_neg (by decide)) (Ev.now _)
 | true =>
  obtain ⟨h1, h2, h3, h4⟩ := placed_in hP
  refine Ev.congr (fun k => if_pos rfl) ?_
  rw [Bool.true_and]
  by_cases hw : word.length = 0
  ·have hz : (word.length : Int) = 0 := by omega
   rw [if_pos hw]
   exact Ev.congr (fun k => if_pos hz) (Ev.now _)
  ·have hz : ¬ (word.length : Int) = 0 := by omega
   rw [if_neg hw]
   refine Ev.congr (fun k => if_neg hz) ?_
   refine doc_l0 L F La Fo b word _ hL hFl hLr (by omega) ?_ L.length 0 (Nat.zero_le _) rfl
   rw [← atK_one L F Fo word h2]
   exact doc_l1 L F La Fo b word h1 hL h4 h3 hLal hFr hLr hwl (word.length - 1) 1 (by omega) (by omega) rfl
end
end Go.Proofs.YtfonajakaimnoaaDoor.C11
