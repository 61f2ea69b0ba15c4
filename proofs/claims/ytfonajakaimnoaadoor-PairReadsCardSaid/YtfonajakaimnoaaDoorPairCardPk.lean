/- PairReads: whatever pairing, number of symbols and word are handed in: Check, Size, Decide and Breaks answer as the document does, what was handed in is as it was, and written over and asked again it is answered as what it is now: the law's call returns true and leaves what it was handed as it was. The package's errors are laid as their initialisers lay them. -/
import Derived.Test.YtfonajakaimnoaaDoorPS4
import Derived.Test.YtfonajakaimnoaaDoorRows
import Derived.Test.YtfonajakaimnoaaDoorPS0
import Derived.ProofKit
import Derived.Deep.Slices
import Derived.SizedLaws
import Derived.Test.YtfonajakaimnoaaDoorCards
import Derived.Test.YtfonajakaimnoaaDoorTie
import Derived.WalkKit
import Derived.OpenShut
import Derived.Deep.DeepHandedRow
import Derived.LaidLaws
import Derived.Below

namespace Go.Proofs.YtfonajakaimnoaaDoor.C14
open Go.RowKit Go.Proofs.YtfonajakaimnoaaDoorW.PrintWords Go.Proofs.YtfonajakaimnoaaDoorW.PrintLast Go.Proofs.YtfonajakaimnoaaDoorW.PrintMore Go.Proofs.YtfonajakaimnoaaDoor.Lib Lent Go.Proofs.YtfonajakaimnoaaDoor.Fn Go.Proofs.YtfonajakaimnoaaDoor.C11 Go.Proofs.YtfonajakaimnoaaDoor.Lend
set_option linter.unusedVariables false
set_option linter.unusedSimpArgs false
attribute [local go_sem] max2_int min2_int max_two min_two max_three min_three max_four min_four
theorem wrap_pk2' (x : Int) : wrap64 (1 - pk2 x) = 1 - pk2 x := by
 have := pk2_in x
 unfold wrap64
 omega
theorem cut_pastL (A : Option Addr) (n c : Nat) (j : Int) (h0 : 0 ≤ j) (hj : j ≤ (c : Int)) (W : World) : (Instr.slice 22 (.slice A n c) none (some (.int .i64 j)) none).run Tryd.prog W = .ok (.slice A j.toNat c) W := by
 obtain ⟨i, hi, _⟩ := Option.map_eq_some_iff.1 info25
 have hel : Tryd.prog.elem 22 = 25 := by simp [Program.elem, Tryd.underlying22]
 have hu : Tryd.prog.underlying 22 = some (.slice (Tryd.prog.elem 22)) := by rw [hel]; exact Tryd.underlying22
 have ha : (A.map fun x => x.add 0) = A := by cases A <;> simp [Addr.add]
 rw [run_slice_h W 22 A n c hu .i64 j h0 hj, hel]
 simp [sizeOf, typeInfo, hi, sliced, ha, Result.andThen]
theorem LQ.lower {base base' h0 h1 h2 h3 h4 h5 : Nat} {B0 B1 B2 B3 B4 : Option Addr} {d0 d1 d2 d3 d4 : Nat} {N0 O0 N1 O1 : LL} {B : List Bool} {W : World} (h : LQ base h0 h1 h2 h3 h4 h5 B0 d0 N0 B1 d1 O0 B2 d2 N1 B3 d3 O1 B4 d4 B W) (hb : base' ≤ base) : LQ base' h0 h1 h2 h3 h4 h5 B0 d0 N0 B1 d1 O0 B2 d2 N1 B3 d3 O1 B4 d4 B W :=
 ⟨Kd.S_lower h.p0 hb, Kd.S_lower h.p1 hb, Kd.S_lower h.p2 hb, Kd.S_lower h.p3 hb, Kd.R_lower h.p4 hb, by have := h.o; omega⟩
def plr.T12 : Bool × List (List Nat × List Nat) := (true, [([], []), ([0], [0]), ([], []), ([2], [2]), ([], []), ([4], [4]), ([3, 5, 1], [3, 5]), ([1, 6], [1, 6]), ([7, 6], [7]), ([8], [8]), ([8], [8]), ([10, 8], [8, 10]), ([11, 8, 8], [8, 11]), ([9, 12, 8], [8, 9, 12]), ([8, 13], [8, 13]), ([14, 12], [14]), ([15], [15]), ([16, 15], [15, 16]), ([15, 17], [15, 17]), ([18, 15], [18]), ([19], [19]), ([20, 19], [19, 20]), ([19, 21], [19, 21]), ([22, 19], [22]), ([23], [23]), ([24, 23, 23], [23, 24]), ([23], [23]), ([25, 26, 23], [23, 25, 26]), ([23, 27], [23, 27]), ([28, 25], [28]), ([29], [29]), ([30, 29, 29], [29, 30]), ([29], [29]), ([31, 32, 29], [29, 31, 32]), ([29, 33], [29, 33]), ([34, 31], [34]), ([35], [35]), ([36, 35], [35, 36]), ([35, 37], [35, 37])])
def plr.B12 : List Nat := [0, 1, 0, 4, 0, 16, 63, 127, 255, 511, 511, 1535, 3583, 8191, 16383, 32767, 65535, 131071, 262143, 524287, 1048575, 2097151, 4194303, 8388607, 16777215, 33554431, 16777215, 134217727, 268435455, 536870911, 1073741823, 2147483647, 1073741823, 8589934591, 17179869183, 34359738367, 68719476735, 137438953471, 274877906943]
theorem plr.tab12 : rtab .any (opsOf Tryd.f6 12) = plr.T12 := by kernel_rfl
theorem plr.bits12 : waitsOk plr.T12.2 plr.B12 = true := by kernel_rfl
theorem zx {s0 : Int} {A0 : Option Addr} {c0 : Nat} {N0 : LL} {A1 : Option Addr} {c1 : Nat} {O0 : LL} {s1 : Int} {A2 : Option Addr} {c2 : Nat} {N1 : LL} {A3 : Option Addr} {c3 : Nat} {O1 : LL} {A4 : Option Addr} {c4 : Nat} {B : List Bool} {els : Bool} {A5 : Option Addr} {c5 : Nat} {wd : List Int} {sy : Int} {w : World} {bp : Nat} {PC : Array Value} {W4 : Option Addr} {q4 : Nat} {ws : List Int} {g0 g1 h0 h1 h2 h3 h4 h5 : Nat} {E0 E1 E2 E3 E4 : Option Addr} {e0 e1 e2 e3 e4 : Nat} {M0 P0 M1 P1 : LL} {Q : List Bool} {W : World} (h : Z w bp #[.int .i64 s0, .slice A0 N0.length c0, .slice A1 O0.length c1, .int .i64 s1, .slice A2 N1.length c2, .slice A3 O1.length c3, .slice A4 B.length c4, .bool els, .int .i64 sy, .slice A5 wd.length c5] PC W4 q4 ws g0 g1 h0 h1 h2 h3 h4 h5 E0 e0 M0 E1 e1 P0 E2 e2 M1 E3 e3 P1 E4 e4 Q W) : W.cell? ⟨w.heap.size, 0, none⟩ = some (.int .i64 s0) ∧ W.cell? ⟨w.heap.size, 1, none⟩ = some (.slice A0 N0.length c0) ∧ W.cell? ⟨w.heap.size, 2, none⟩ = some (.slice A1 O0.length c1) ∧ W.cell? ⟨w.heap.size, 3, none⟩ = some (.int .i64 s1) ∧ W.cell? ⟨w.heap.size, 4, none⟩ = some (.slice A2 N1.length c2) ∧ W.cell? ⟨w.heap.size, 5, none⟩ = some (.slice A3 O1.length c3) ∧ W.cell? ⟨w.heap.size, 6, none⟩ = some (.slice A4 B.length c4) ∧ W.cell? ⟨w.heap.size, 7, none⟩ = some (.bool els) ∧ W.cell? ⟨w.heap.size, 8, none⟩ = some (.int .i64 sy) ∧ W.cell? ⟨w.heap.size, 9, none⟩ = some (.slice A5 wd.length c5) :=
 ⟨(blk_cell h.hx 0).trans rfl, (blk_cell h.hx 1).trans rfl, (blk_cell h.hx 2).trans rfl, (blk_cell h.hx 3).trans rfl, (blk_cell h.hx 4).trans rfl, (blk_cell h.hx 5).trans rfl, (blk_cell h.hx 6).trans rfl, (blk_cell h.hx 7).trans rfl, (blk_cell h.hx 8).trans rfl, (blk_cell h.hx 9).trans rfl⟩
set_option maxHeartbeats 8000000 in
set_option maxRecDepth 100000 in
theorem pairReads_calls {s0 : Int} {A0 : Option Addr} {c0 : Nat} {N0 : LL} {A1 : Option Addr} {c1 : Nat} {O0 : LL} {s1 : Int} {A2 : Option Addr} {c2 : Nat} {N1 : LL} {A3 : Option Addr} {c3 : Nat} {O1 : LL} {A4 : Option Addr} {c4 : Nat} {B : List Bool} {els : Bool} {A5 : Option Addr} {c5 : Nat} {wd : List Int} {w : World} {a0 a1 a2 : Addr} (h : Cp A0 c0 N0 A1 c1 O0 A2 c2 N1 A3 c3 O1 A4 c4 B w) (hS : Sen a0 a1 a2 w) (hw : Kd.C kI w A5 wd.length wd ∧ wd.length ≤ c5) (hl : wd.length ≤ 17592186043904) (sy : Int)
  (hb : N0.length ≤ 5864062014634 ∧ O0.length ≤ 5864062014634 ∧ N1.length ≤ 5864062014634 ∧ O1.length ≤ 5864062014634 ∧ B.length ≤ 140737488351232)
  (hr : (∀ l ∈ N0, l.length ≤ 17592186043904) ∧ (∀ l ∈ O0, l.length ≤ 17592186043904) ∧ (∀ l ∈ N1, l.length ≤ 17592186043904) ∧ (∀ l ∈ O1, l.length ≤ 17592186043904)) :
  Calls Tryd.prog 6 #[.agg #[.int .i64 s0, .slice A0 N0.length c0, .slice A1 O0.length c1, .int .i64 s1, .slice A2 N1.length c2, .slice A3 O1.length c3, .slice A4 B.length c4, .bool els, .int .i64 sy, .slice A5 wd.length c5]] w fun e w' => e = .returned (.bool true) ∧ Below w.heap.size w w' := by
 have hu := Tryd.underlying60
 have hu3 := Tryd.underlying62
 have H := Aside0.mk h
 have HS := Aside0.mk hS
 have HW := Aside0.mk hw
 have HL := Aside0.mk hl
 have HN := Aside0.mk hb
 have HR := Aside0.mk hr
 clear h hS hw hl hb hr
 obtain ⟨qf, hqf⟩ : ∃ q : Int, q = if pokB s0 N0 O0 s1 N1 O1 B sy then 0 else 1 := ⟨_, rfl⟩
 have QF := Aside0.mk hqf
 have QF1 : Aside0 (qf = 0 ∨ qf = 1) := ⟨by rw [hqf]; exact chk_code⟩
 clear hqf
 obtain ⟨X, hX⟩ : ∃ X : List Int, X = (decR s0 N0 O0 s1 N1 O1 B wd).1 := ⟨_, rfl⟩
 obtain ⟨qx, hqx⟩ : ∃ q : Int, q = (decR s0 N0 O0 s1 N1 O1 B wd).2 := ⟨_, rfl⟩
 obtain ⟨Y, hY⟩ : ∃ Y : List Int, Y = (brkR s0 N0 O0 s1 N1 O1 B els wd).1 := ⟨_, rfl⟩
 obtain ⟨qy, hqy⟩ : ∃ q : Int, q = (brkR s0 N0 O0 s1 N1 O1 B els wd).2 := ⟨_, rfl⟩
 have QX1 : Aside0 (qx = 0 ∨ qx = 1) := ⟨by rw [hqx]; exact dec_code⟩
 have QY1 : Aside0 (qy = 0 ∨ qy = 1) := ⟨by rw [hqy]; exact brk_code⟩
 have EX := Aside0.mk hX
 have QX := Aside0.mk hqx
 have EY := Aside0.mk hY
 have QY := Aside0.mk hqy
 clear hX hqx hY hqy
 obtain ⟨sz, hsz⟩ : ∃ z : Int, z = wrap64 ((N0.length : Int) + (N1.length : Int)) := ⟨_, rfl⟩
 have SZ := Aside0.mk hsz
 clear hsz
 go_enter Tryd.func6, Tryd.ntmps6
 go_wp2_with fail
 have HX := Aside0.mk (heap_alloc_new w (.cells #[.int .i64 s0, .slice A0 N0.length c0, .slice A1 O0.length c1, .int .i64 s1, .slice A2 N1.length c2, .slice A3 O1.length c3, .slice A4 B.length c4, .bool els, .int .i64 sy, .slice A5 wd.length c5] 62))
 have HB := Aside0.mk (below_alloc (Below.refl w.heap.size w) (.cells #[.int .i64 s0, .slice A0 N0.length c0, .slice A1 O0.length c1, .int .i64 s1, .slice A2 N1.length c2, .slice A3 O1.length c3, .slice A4 B.length c4, .bool els, .int .i64 sy, .slice A5 wd.length c5] 62))
 have HG : Aside0 ((w.alloc (.cells #[.int .i64 s0, .slice A0 N0.length c0, .slice A1 O0.length c1, .int .i64 s1, .slice A2 N1.length c2, .slice A3 O1.length c3, .slice A4 B.length c4, .bool els, .int .i64 sy, .slice A5 wd.length c5] 62)).heap.size = w.heap.size + 1) := ⟨by simp⟩
 refine (list_calls A5 c5 wd _ (Kd.C_below HW.out.1 HB.out) HW.out.2 HL.out).mono ?_
 rintro e w1 ⟨W4, q4, rfl, ho, hb⟩
 rw [HG.out] at ho
 have hgs := hb.size
 rw [HG.out] at hgs
 replace HX := Aside0.mk ((hb.block _ (blk_lt HX.out)).trans HX.out)
 replace HB := Aside0.mk (below_step HB.out hb)
 have H0 := Aside0.mk (And.intro (Kd.R_mono (Kd.R_bound ho) (ok' := rng (w.heap.size + 1) w1.heap.size) (fun k hk => ⟨hk.2.1, hk.2.2.1⟩)) hgs)
 clear hb ho hgs HG
 have x0 : w1.cell? ⟨w.heap.size, 0, none⟩ = some (.int .i64 s0) := (blk_cell HX.out 0).trans rfl
 have x1 : w1.cell? ⟨w.heap.size, 1, none⟩ = some (.slice A0 N0.length c0) := (blk_cell HX.out 1).trans rfl
 have x2 : w1.cell? ⟨w.heap.size, 2, none⟩ = some (.slice A1 O0.length c1) := (blk_cell HX.out 2).trans rfl
 have x3 : w1.cell? ⟨w.heap.size, 3, none⟩ = some (.int .i64 s1) := (blk_cell HX.out 3).trans rfl
 have x4 : w1.cell? ⟨w.heap.size, 4, none⟩ = some (.slice A2 N1.length c2) := (blk_cell HX.out 4).trans rfl
 have x5 : w1.cell? ⟨w.heap.size, 5, none⟩ = some (.slice A3 O1.length c3) := (blk_cell HX.out 5).trans rfl
 have x6 : w1.cell? ⟨w.heap.size, 6, none⟩ = some (.slice A4 B.length c4) := (blk_cell HX.out 6).trans rfl
 have x7 : w1.cell? ⟨w.heap.size, 7, none⟩ = some (.bool els) := (blk_cell HX.out 7).trans rfl
 have x8 : w1.cell? ⟨w.heap.size, 8, none⟩ = some (.int .i64 sy) := (blk_cell HX.out 8).trans rfl
 have x9 : w1.cell? ⟨w.heap.size, 9, none⟩ = some (.slice A5 wd.length c5) := (blk_cell HX.out 9).trans rfl
 go_wp2_with fail
 refine (kpair_calls (els := els) (s0 := s0) (s1 := s1) (H.out.below HB.out) HN.out HR.out).mono ?_
 rintro e w2 ⟨B0, B1, B2, B3, B4, d0, d1, d2, d3, d4, h0, h1, h2, h3, h4, h5, rfl, hlq, hb⟩
 have HZ : Aside0 (Z w w2.heap.size #[.int .i64 s0, .slice A0 N0.length c0, .slice A1 O0.length c1, .int .i64 s1, .slice A2 N1.length c2, .slice A3 O1.length c3, .slice A4 B.length c4, .bool els, .int .i64 sy, .slice A5 wd.length c5] #[.int .i64 s0, .slice B0 N0.length d0, .slice B1 O0.length d1, .int .i64 s1, .slice B2 N1.length d2, .slice B3 O1.length d3, .slice B4 B.length d4, .bool els] W4 q4 wd (w.heap.size + 1) w1.heap.size h0 h1 h2 h3 h4 h5 B0 d0 N0 B1 d1 O0 B2 d2 N1 B3 d3 O1 B4 d4 B (w2.alloc (.cells #[.int .i64 s0, .slice B0 N0.length d0, .slice B1 O0.length d1, .int .i64 s1, .slice B2 N1.length d2, .slice B3 O1.length d3, .slice B4 B.length d4, .bool els] 60))) :=
  ⟨⟨below_alloc (below_step HB.out hb) _, blk_alloc ((hb.block _ (blk_lt HX.out)).trans HX.out) _, Kd.R_alloc (Kd.R_below H0.out.1 hb) _, (hlq.lower H0.out.2).step (below_alloc (Below.refl _ _) _), heap_alloc_new _ _, by have := hlq.o; have := H0.out.2; omega⟩⟩
 clear hb hlq HX HB H0 x0 x1 x2 x3 x4 x5 x6 x7 x8 x9
 go_upto_region 3 with fail
 generalize w2.heap.size = bp at HZ ⊢
 generalize w1.heap.size = g1 at HZ
 generalize World.alloc _ _ = w3 at HZ ⊢
 have x0 : w3.cell? ⟨w.heap.size, 0, none⟩ = some (.int .i64 s0) := (blk_cell HZ.out.hx 0).trans rfl
 have x1 : w3.cell? ⟨w.heap.size, 1, none⟩ = some (.slice A0 N0.length c0) := (blk_cell HZ.out.hx 1).trans rfl
 have x2 : w3.cell? ⟨w.heap.size, 2, none⟩ = some (.slice A1 O0.length c1) := (blk_cell HZ.out.hx 2).trans rfl
 have x3 : w3.cell? ⟨w.heap.size, 3, none⟩ = some (.int .i64 s1) := (blk_cell HZ.out.hx 3).trans rfl
 have x4 : w3.cell? ⟨w.heap.size, 4, none⟩ = some (.slice A2 N1.length c2) := (blk_cell HZ.out.hx 4).trans rfl
 have x5 : w3.cell? ⟨w.heap.size, 5, none⟩ = some (.slice A3 O1.length c3) := (blk_cell HZ.out.hx 5).trans rfl
 have x6 : w3.cell? ⟨w.heap.size, 6, none⟩ = some (.slice A4 B.length c4) := (blk_cell HZ.out.hx 6).trans rfl
 have x7 : w3.cell? ⟨w.heap.size, 7, none⟩ = some (.bool els) := (blk_cell HZ.out.hx 7).trans rfl
 have x8 : w3.cell? ⟨w.heap.size, 8, none⟩ = some (.int .i64 sy) := (blk_cell HZ.out.hx 8).trans rfl
 have x9 : w3.cell? ⟨w.heap.size, 9, none⟩ = some (.slice A5 wd.length c5) := (blk_cell HZ.out.hx 9).trans rfl
 have y0 : w3.cell? ⟨bp, 0, none⟩ = some (.int .i64 s0) := (blk_cell HZ.out.hp 0).trans rfl
 have y1 : w3.cell? ⟨bp, 1, none⟩ = some (.slice B0 N0.length d0) := (blk_cell HZ.out.hp 1).trans rfl
 have y2 : w3.cell? ⟨bp, 2, none⟩ = some (.slice B1 O0.length d1) := (blk_cell HZ.out.hp 2).trans rfl
 have y3 : w3.cell? ⟨bp, 3, none⟩ = some (.int .i64 s1) := (blk_cell HZ.out.hp 3).trans rfl
 have y4 : w3.cell? ⟨bp, 4, none⟩ = some (.slice B2 N1.length d2) := (blk_cell HZ.out.hp 4).trans rfl
 have y5 : w3.cell? ⟨bp, 5, none⟩ = some (.slice B3 O1.length d3) := (blk_cell HZ.out.hp 5).trans rfl
 have y6 : w3.cell? ⟨bp, 6, none⟩ = some (.slice B4 B.length d4) := (blk_cell HZ.out.hp 6).trans rfl
 have y7 : w3.cell? ⟨bp, 7, none⟩ = some (.bool els) := (blk_cell HZ.out.hp 7).trans rfl
 go_wp2_with fail
 refine (pchk_c (els := els) (s0 := s0) (s1 := s1) HZ.out.lq.cp (HS.out.step HZ.out.below) sy).mono ?_
 rintro e w4 ⟨he, hb⟩
 rw [← QF.out] at he
 subst he
 replace HZ := Aside0.mk (HZ.out.step hb)
 clear hb
 clear x0 x1 x2 x3 x4 x5 x6 x7 x8 x9 y0 y1 y2 y3 y4 y5 y6 y7
 have x0 : w4.cell? ⟨w.heap.size, 0, none⟩ = some (.int .i64 s0) := (blk_cell HZ.out.hx 0).trans rfl
 have x1 : w4.cell? ⟨w.heap.size, 1, none⟩ = some (.slice A0 N0.length c0) := (blk_cell HZ.out.hx 1).trans rfl
 have x2 : w4.cell? ⟨w.heap.size, 2, none⟩ = some (.slice A1 O0.length c1) := (blk_cell HZ.out.hx 2).trans rfl
 have x3 : w4.cell? ⟨w.heap.size, 3, none⟩ = some (.int .i64 s1) := (blk_cell HZ.out.hx 3).trans rfl
 have x4 : w4.cell? ⟨w.heap.size, 4, none⟩ = some (.slice A2 N1.length c2) := (blk_cell HZ.out.hx 4).trans rfl
 have x5 : w4.cell? ⟨w.heap.size, 5, none⟩ = some (.slice A3 O1.length c3) := (blk_cell HZ.out.hx 5).trans rfl
 have x6 : w4.cell? ⟨w.heap.size, 6, none⟩ = some (.slice A4 B.length c4) := (blk_cell HZ.out.hx 6).trans rfl
 have x7 : w4.cell? ⟨w.heap.size, 7, none⟩ = some (.bool els) := (blk_cell HZ.out.hx 7).trans rfl
 have x8 : w4.cell? ⟨w.heap.size, 8, none⟩ = some (.int .i64 sy) := (blk_cell HZ.out.hx 8).trans rfl
 have x9 : w4.cell? ⟨w.heap.size, 9, none⟩ = some (.slice A5 wd.length c5) := (blk_cell HZ.out.hx 9).trans rfl
 have y0 : w4.cell? ⟨bp, 0, none⟩ = some (.int .i64 s0) := (blk_cell HZ.out.hp 0).trans rfl
 have y1 : w4.cell? ⟨bp, 1, none⟩ = some (.slice B0 N0.length d0) := (blk_cell HZ.out.hp 1).trans rfl
 have y2 : w4.cell? ⟨bp, 2, none⟩ = some (.slice B1 O0.length d1) := (blk_cell HZ.out.hp 2).trans rfl
 have y3 : w4.cell? ⟨bp, 3, none⟩ = some (.int .i64 s1) := (blk_cell HZ.out.hp 3).trans rfl
 have y4 : w4.cell? ⟨bp, 4, none⟩ = some (.slice B2 N1.length d2) := (blk_cell HZ.out.hp 4).trans rfl
 have y5 : w4.cell? ⟨bp, 5, none⟩ = some (.slice B3 O1.length d3) := (blk_cell HZ.out.hp 5).trans rfl
 have y6 : w4.cell? ⟨bp, 6, none⟩ = some (.slice B4 B.length d4) := (blk_cell HZ.out.hp 6).trans rfl
 have y7 : w4.cell? ⟨bp, 7, none⟩ = some (.bool els) := (blk_cell HZ.out.hp 7).trans rfl
 go_wp2_with fail
 refine (pdec_c (els := els) (s0 := s0) (s1 := s1) HZ.out.lq.cp (HS.out.step HZ.out.below) HZ.out.word HL.out).mono ?_
 rintro e w5 ⟨v, he, ho, hb⟩
 rw [← QX.out] at he
 rw [← EX.out] at ho
 obtain ⟨Ap, cp, rfl⟩ := Kd.R_slice ho
 subst he
 have Kp := Aside0.mk (And.intro (Kd.R_reads' ho).2.2 (Kd.R_reads' ho).2.1)
 clear ho
 replace HZ := Aside0.mk (HZ.out.step hb)
 clear hb
 clear x0 x1 x2 x3 x4 x5 x6 x7 x8 x9 y0 y1 y2 y3 y4 y5 y6 y7
 have x0 : w5.cell? ⟨w.heap.size, 0, none⟩ = some (.int .i64 s0) := (blk_cell HZ.out.hx 0).trans rfl
 have x1 : w5.cell? ⟨w.heap.size, 1, none⟩ = some (.slice A0 N0.length c0) := (blk_cell HZ.out.hx 1).trans rfl
 have x2 : w5.cell? ⟨w.heap.size, 2, none⟩ = some (.slice A1 O0.length c1) := (blk_cell HZ.out.hx 2).trans rfl
 have x3 : w5.cell? ⟨w.heap.size, 3, none⟩ = some (.int .i64 s1) := (blk_cell HZ.out.hx 3).trans rfl
 have x4 : w5.cell? ⟨w.heap.size, 4, none⟩ = some (.slice A2 N1.length c2) := (blk_cell HZ.out.hx 4).trans rfl
 have x5 : w5.cell? ⟨w.heap.size, 5, none⟩ = some (.slice A3 O1.length c3) := (blk_cell HZ.out.hx 5).trans rfl
 have x6 : w5.cell? ⟨w.heap.size, 6, none⟩ = some (.slice A4 B.length c4) := (blk_cell HZ.out.hx 6).trans rfl
 have x7 : w5.cell? ⟨w.heap.size, 7, none⟩ = some (.bool els) := (blk_cell HZ.out.hx 7).trans rfl
 have x8 : w5.cell? ⟨w.heap.size, 8, none⟩ = some (.int .i64 sy) := (blk_cell HZ.out.hx 8).trans rfl
 have x9 : w5.cell? ⟨w.heap.size, 9, none⟩ = some (.slice A5 wd.length c5) := (blk_cell HZ.out.hx 9).trans rfl
 have y0 : w5.cell? ⟨bp, 0, none⟩ = some (.int .i64 s0) := (blk_cell HZ.out.hp 0).trans rfl
 have y1 : w5.cell? ⟨bp, 1, none⟩ = some (.slice B0 N0.length d0) := (blk_cell HZ.out.hp 1).trans rfl
 have y2 : w5.cell? ⟨bp, 2, none⟩ = some (.slice B1 O0.length d1) := (blk_cell HZ.out.hp 2).trans rfl
 have y3 : w5.cell? ⟨bp, 3, none⟩ = some (.int .i64 s1) := (blk_cell HZ.out.hp 3).trans rfl
 have y4 : w5.cell? ⟨bp, 4, none⟩ = some (.slice B2 N1.length d2) := (blk_cell HZ.out.hp 4).trans rfl
 have y5 : w5.cell? ⟨bp, 5, none⟩ = some (.slice B3 O1.length d3) := (blk_cell HZ.out.hp 5).trans rfl
 have y6 : w5.cell? ⟨bp, 6, none⟩ = some (.slice B4 B.length d4) := (blk_cell HZ.out.hp 6).trans rfl
 have y7 : w5.cell? ⟨bp, 7, none⟩ = some (.bool els) := (blk_cell HZ.out.hp 7).trans rfl
 go_wp2_with fail
 refine (ddec_c (els := els) (s0 := s0) (s1 := s1) (H.out.below HZ.out.below) ⟨Kd.C_below HW.out.1 HZ.out.below, HW.out.2⟩ HL.out).mono ?_
 rintro e w6 ⟨v, he, ho, hb⟩
 rw [← QX.out] at he
 rw [← EX.out] at ho
 obtain ⟨Ax, cx, rfl⟩ := Kd.R_slice ho
 subst he
 have Kx := Aside0.mk (And.intro (Kd.R_reads' ho).2.2 (Kd.R_reads' ho).2.1)
 clear ho
 replace Kp := Aside0.mk (And.intro (Kd.C_below Kp.out.1 hb) Kp.out.2)
 replace HZ := Aside0.mk (HZ.out.step hb)
 clear hb
 clear x0 x1 x2 x3 x4 x5 x6 x7 x8 x9 y0 y1 y2 y3 y4 y5 y6 y7
 have x0 : w6.cell? ⟨w.heap.size, 0, none⟩ = some (.int .i64 s0) := (blk_cell HZ.out.hx 0).trans rfl
 have x1 : w6.cell? ⟨w.heap.size, 1, none⟩ = some (.slice A0 N0.length c0) := (blk_cell HZ.out.hx 1).trans rfl
 have x2 : w6.cell? ⟨w.heap.size, 2, none⟩ = some (.slice A1 O0.length c1) := (blk_cell HZ.out.hx 2).trans rfl
 have x3 : w6.cell? ⟨w.heap.size, 3, none⟩ = some (.int .i64 s1) := (blk_cell HZ.out.hx 3).trans rfl
 have x4 : w6.cell? ⟨w.heap.size, 4, none⟩ = some (.slice A2 N1.length c2) := (blk_cell HZ.out.hx 4).trans rfl
 have x5 : w6.cell? ⟨w.heap.size, 5, none⟩ = some (.slice A3 O1.length c3) := (blk_cell HZ.out.hx 5).trans rfl
 have x6 : w6.cell? ⟨w.heap.size, 6, none⟩ = some (.slice A4 B.length c4) := (blk_cell HZ.out.hx 6).trans rfl
 have x7 : w6.cell? ⟨w.heap.size, 7, none⟩ = some (.bool els) := (blk_cell HZ.out.hx 7).trans rfl
 have x8 : w6.cell? ⟨w.heap.size, 8, none⟩ = some (.int .i64 sy) := (blk_cell HZ.out.hx 8).trans rfl
 have x9 : w6.cell? ⟨w.heap.size, 9, none⟩ = some (.slice A5 wd.length c5) := (blk_cell HZ.out.hx 9).trans rfl
 have y0 : w6.cell? ⟨bp, 0, none⟩ = some (.int .i64 s0) := (blk_cell HZ.out.hp 0).trans rfl
 have y1 : w6.cell? ⟨bp, 1, none⟩ = some (.slice B0 N0.length d0) := (blk_cell HZ.out.hp 1).trans rfl
 have y2 : w6.cell? ⟨bp, 2, none⟩ = some (.slice B1 O0.length d1) := (blk_cell HZ.out.hp 2).trans rfl
 have y3 : w6.cell? ⟨bp, 3, none⟩ = some (.int .i64 s1) := (blk_cell HZ.out.hp 3).trans rfl
 have y4 : w6.cell? ⟨bp, 4, none⟩ = some (.slice B2 N1.length d2) := (blk_cell HZ.out.hp 4).trans rfl
 have y5 : w6.cell? ⟨bp, 5, none⟩ = some (.slice B3 O1.length d3) := (blk_cell HZ.out.hp 5).trans rfl
 have y6 : w6.cell? ⟨bp, 6, none⟩ = some (.slice B4 B.length d4) := (blk_cell HZ.out.hp 6).trans rfl
 have y7 : w6.cell? ⟨bp, 7, none⟩ = some (.bool els) := (blk_cell HZ.out.hp 7).trans rfl
 go_wp2_with fail
 refine (pbrk_c (els := els) (s0 := s0) (s1 := s1) HZ.out.lq.cp (HS.out.step HZ.out.below) HZ.out.word HL.out).mono ?_
 rintro e w7 ⟨v, he, ho, hb⟩
 rw [← QY.out] at he
 rw [← EY.out] at ho
 obtain ⟨Aq, cq, rfl⟩ := Kd.R_slice ho
 subst he
 have Kq := Aside0.mk (And.intro (Kd.R_reads' ho).2.2 (Kd.R_reads' ho).2.1)
 clear ho
 replace Kp := Aside0.mk (And.intro (Kd.C_below Kp.out.1 hb) Kp.out.2)
 replace Kx := Aside0.mk (And.intro (Kd.C_below Kx.out.1 hb) Kx.out.2)
 replace HZ := Aside0.mk (HZ.out.step hb)
 clear hb
 clear x0 x1 x2 x3 x4 x5 x6 x7 x8 x9 y0 y1 y2 y3 y4 y5 y6 y7
 have x0 : w7.cell? ⟨w.heap.size, 0, none⟩ = some (.int .i64 s0) := (blk_cell HZ.out.hx 0).trans rfl
 have x1 : w7.cell? ⟨w.heap.size, 1, none⟩ = some (.slice A0 N0.length c0) := (blk_cell HZ.out.hx 1).trans rfl
 have x2 : w7.cell? ⟨w.heap.size, 2, none⟩ = some (.slice A1 O0.length c1) := (blk_cell HZ.out.hx 2).trans rfl
 have x3 : w7.cell? ⟨w.heap.size, 3, none⟩ = some (.int .i64 s1) := (blk_cell HZ.out.hx 3).trans rfl
 have x4 : w7.cell? ⟨w.heap.size, 4, none⟩ = some (.slice A2 N1.length c2) := (blk_cell HZ.out.hx 4).trans rfl
 have x5 : w7.cell? ⟨w.heap.size, 5, none⟩ = some (.slice A3 O1.length c3) := (blk_cell HZ.out.hx 5).trans rfl
 have x6 : w7.cell? ⟨w.heap.size, 6, none⟩ = some (.slice A4 B.length c4) := (blk_cell HZ.out.hx 6).trans rfl
 have x7 : w7.cell? ⟨w.heap.size, 7, none⟩ = some (.bool els) := (blk_cell HZ.out.hx 7).trans rfl
 have x8 : w7.cell? ⟨w.heap.size, 8, none⟩ = some (.int .i64 sy) := (blk_cell HZ.out.hx 8).trans rfl
 have x9 : w7.cell? ⟨w.heap.size, 9, none⟩ = some (.slice A5 wd.length c5) := (blk_cell HZ.out.hx 9).trans rfl
 have y0 : w7.cell? ⟨bp, 0, none⟩ = some (.int .i64 s0) := (blk_cell HZ.out.hp 0).trans rfl
 have y1 : w7.cell? ⟨bp, 1, none⟩ = some (.slice B0 N0.length d0) := (blk_cell HZ.out.hp 1).trans rfl
 have y2 : w7.cell? ⟨bp, 2, none⟩ = some (.slice B1 O0.length d1) := (blk_cell HZ.out.hp 2).trans rfl
 have y3 : w7.cell? ⟨bp, 3, none⟩ = some (.int .i64 s1) := (blk_cell HZ.out.hp 3).trans rfl
 have y4 : w7.cell? ⟨bp, 4, none⟩ = some (.slice B2 N1.length d2) := (blk_cell HZ.out.hp 4).trans rfl
 have y5 : w7.cell? ⟨bp, 5, none⟩ = some (.slice B3 O1.length d3) := (blk_cell HZ.out.hp 5).trans rfl
 have y6 : w7.cell? ⟨bp, 6, none⟩ = some (.slice B4 B.length d4) := (blk_cell HZ.out.hp 6).trans rfl
 have y7 : w7.cell? ⟨bp, 7, none⟩ = some (.bool els) := (blk_cell HZ.out.hp 7).trans rfl
 go_wp2_with fail
 refine (dbrk_c (els := els) (s0 := s0) (s1 := s1) (H.out.below HZ.out.below) ⟨Kd.C_below HW.out.1 HZ.out.below, HW.out.2⟩ HL.out).mono ?_
 rintro e w8 ⟨v, he, ho, hb⟩
 rw [← QY.out] at he
 rw [← EY.out] at ho
 obtain ⟨Ay, cy, rfl⟩ := Kd.R_slice ho
 subst he
 have Ky := Aside0.mk (And.intro (Kd.R_reads' ho).2.2 (Kd.R_reads' ho).2.1)
 clear ho
 replace Kp := Aside0.mk (And.intro (Kd.C_below Kp.out.1 hb) Kp.out.2)
 replace Kx := Aside0.mk (And.intro (Kd.C_below Kx.out.1 hb) Kx.out.2)
 replace Kq := Aside0.mk (And.intro (Kd.C_below Kq.out.1 hb) Kq.out.2)
 replace HZ := Aside0.mk (HZ.out.step hb)
 clear hb
 clear x0 x1 x2 x3 x4 x5 x6 x7 x8 x9 y0 y1 y2 y3 y4 y5 y6 y7
 have x0 : w8.cell? ⟨w.heap.size, 0, none⟩ = some (.int .i64 s0) := (blk_cell HZ.out.hx 0).trans rfl
 have x1 : w8.cell? ⟨w.heap.size, 1, none⟩ = some (.slice A0 N0.length c0) := (blk_cell HZ.out.hx 1).trans rfl
 have x2 : w8.cell? ⟨w.heap.size, 2, none⟩ = some (.slice A1 O0.length c1) := (blk_cell HZ.out.hx 2).trans rfl
 have x3 : w8.cell? ⟨w.heap.size, 3, none⟩ = some (.int .i64 s1) := (blk_cell HZ.out.hx 3).trans rfl
 have x4 : w8.cell? ⟨w.heap.size, 4, none⟩ = some (.slice A2 N1.length c2) := (blk_cell HZ.out.hx 4).trans rfl
 have x5 : w8.cell? ⟨w.heap.size, 5, none⟩ = some (.slice A3 O1.length c3) := (blk_cell HZ.out.hx 5).trans rfl
 have x6 : w8.cell? ⟨w.heap.size, 6, none⟩ = some (.slice A4 B.length c4) := (blk_cell HZ.out.hx 6).trans rfl
 have x7 : w8.cell? ⟨w.heap.size, 7, none⟩ = some (.bool els) := (blk_cell HZ.out.hx 7).trans rfl
 have x8 : w8.cell? ⟨w.heap.size, 8, none⟩ = some (.int .i64 sy) := (blk_cell HZ.out.hx 8).trans rfl
 have x9 : w8.cell? ⟨w.heap.size, 9, none⟩ = some (.slice A5 wd.length c5) := (blk_cell HZ.out.hx 9).trans rfl
 have y0 : w8.cell? ⟨bp, 0, none⟩ = some (.int .i64 s0) := (blk_cell HZ.out.hp 0).trans rfl
 have y1 : w8.cell? ⟨bp, 1, none⟩ = some (.slice B0 N0.length d0) := (blk_cell HZ.out.hp 1).trans rfl
 have y2 : w8.cell? ⟨bp, 2, none⟩ = some (.slice B1 O0.length d1) := (blk_cell HZ.out.hp 2).trans rfl
 have y3 : w8.cell? ⟨bp, 3, none⟩ = some (.int .i64 s1) := (blk_cell HZ.out.hp 3).trans rfl
 have y4 : w8.cell? ⟨bp, 4, none⟩ = some (.slice B2 N1.length d2) := (blk_cell HZ.out.hp 4).trans rfl
 have y5 : w8.cell? ⟨bp, 5, none⟩ = some (.slice B3 O1.length d3) := (blk_cell HZ.out.hp 5).trans rfl
 have y6 : w8.cell? ⟨bp, 6, none⟩ = some (.slice B4 B.length d4) := (blk_cell HZ.out.hp 6).trans rfl
 have y7 : w8.cell? ⟨bp, 7, none⟩ = some (.bool els) := (blk_cell HZ.out.hp 7).trans rfl
 go_wp2_with fail
 refine (ints_c Kp.out.1 Kp.out.2 Kx.out.1 Kx.out.2).mono ?_
 rintro e w9 ⟨rfl, hb⟩
 replace Kp := Aside0.mk (And.intro (Kd.C_below Kp.out.1 hb) Kp.out.2)
 replace Kx := Aside0.mk (And.intro (Kd.C_below Kx.out.1 hb) Kx.out.2)
 replace Kq := Aside0.mk (And.intro (Kd.C_below Kq.out.1 hb) Kq.out.2)
 replace Ky := Aside0.mk (And.intro (Kd.C_below Ky.out.1 hb) Ky.out.2)
 replace HZ := Aside0.mk (HZ.out.step hb)
 clear hb
 clear x0 x1 x2 x3 x4 x5 x6 x7 x8 x9 y0 y1 y2 y3 y4 y5 y6 y7
 have x0 : w9.cell? ⟨w.heap.size, 0, none⟩ = some (.int .i64 s0) := (blk_cell HZ.out.hx 0).trans rfl
 have x1 : w9.cell? ⟨w.heap.size, 1, none⟩ = some (.slice A0 N0.length c0) := (blk_cell HZ.out.hx 1).trans rfl
 have x2 : w9.cell? ⟨w.heap.size, 2, none⟩ = some (.slice A1 O0.length c1) := (blk_cell HZ.out.hx 2).trans rfl
 have x3 : w9.cell? ⟨w.heap.size, 3, none⟩ = some (.int .i64 s1) := (blk_cell HZ.out.hx 3).trans rfl
 have x4 : w9.cell? ⟨w.heap.size, 4, none⟩ = some (.slice A2 N1.length c2) := (blk_cell HZ.out.hx 4).trans rfl
 have x5 : w9.cell? ⟨w.heap.size, 5, none⟩ = some (.slice A3 O1.length c3) := (blk_cell HZ.out.hx 5).trans rfl
 have x6 : w9.cell? ⟨w.heap.size, 6, none⟩ = some (.slice A4 B.length c4) := (blk_cell HZ.out.hx 6).trans rfl
 have x7 : w9.cell? ⟨w.heap.size, 7, none⟩ = some (.bool els) := (blk_cell HZ.out.hx 7).trans rfl
 have x8 : w9.cell? ⟨w.heap.size, 8, none⟩ = some (.int .i64 sy) := (blk_cell HZ.out.hx 8).trans rfl
 have x9 : w9.cell? ⟨w.heap.size, 9, none⟩ = some (.slice A5 wd.length c5) := (blk_cell HZ.out.hx 9).trans rfl
 have y0 : w9.cell? ⟨bp, 0, none⟩ = some (.int .i64 s0) := (blk_cell HZ.out.hp 0).trans rfl
 have y1 : w9.cell? ⟨bp, 1, none⟩ = some (.slice B0 N0.length d0) := (blk_cell HZ.out.hp 1).trans rfl
 have y2 : w9.cell? ⟨bp, 2, none⟩ = some (.slice B1 O0.length d1) := (blk_cell HZ.out.hp 2).trans rfl
 have y3 : w9.cell? ⟨bp, 3, none⟩ = some (.int .i64 s1) := (blk_cell HZ.out.hp 3).trans rfl
 have y4 : w9.cell? ⟨bp, 4, none⟩ = some (.slice B2 N1.length d2) := (blk_cell HZ.out.hp 4).trans rfl
 have y5 : w9.cell? ⟨bp, 5, none⟩ = some (.slice B3 O1.length d3) := (blk_cell HZ.out.hp 5).trans rfl
 have y6 : w9.cell? ⟨bp, 6, none⟩ = some (.slice B4 B.length d4) := (blk_cell HZ.out.hp 6).trans rfl
 have y7 : w9.cell? ⟨bp, 7, none⟩ = some (.bool els) := (blk_cell HZ.out.hp 7).trans rfl
 go_wp2_with fail
 refine (ints_c Kq.out.1 Kq.out.2 Ky.out.1 Ky.out.2).mono ?_
 rintro e w10 ⟨rfl, hb⟩
 replace Kp := Aside0.mk (And.intro (Kd.C_below Kp.out.1 hb) Kp.out.2)
 replace Kx := Aside0.mk (And.intro (Kd.C_below Kx.out.1 hb) Kx.out.2)
 replace Kq := Aside0.mk (And.intro (Kd.C_below Kq.out.1 hb) Kq.out.2)
 replace Ky := Aside0.mk (And.intro (Kd.C_below Ky.out.1 hb) Ky.out.2)
 replace HZ := Aside0.mk (HZ.out.step hb)
 clear hb
 clear x0 x1 x2 x3 x4 x5 x6 x7 x8 x9 y0 y1 y2 y3 y4 y5 y6 y7
 have x0 : w10.cell? ⟨w.heap.size, 0, none⟩ = some (.int .i64 s0) := (blk_cell HZ.out.hx 0).trans rfl
 have x1 : w10.cell? ⟨w.heap.size, 1, none⟩ = some (.slice A0 N0.length c0) := (blk_cell HZ.out.hx 1).trans rfl
 have x2 : w10.cell? ⟨w.heap.size, 2, none⟩ = some (.slice A1 O0.length c1) := (blk_cell HZ.out.hx 2).trans rfl
 have x3 : w10.cell? ⟨w.heap.size, 3, none⟩ = some (.int .i64 s1) := (blk_cell HZ.out.hx 3).trans rfl
 have x4 : w10.cell? ⟨w.heap.size, 4, none⟩ = some (.slice A2 N1.length c2) := (blk_cell HZ.out.hx 4).trans rfl
 have x5 : w10.cell? ⟨w.heap.size, 5, none⟩ = some (.slice A3 O1.length c3) := (blk_cell HZ.out.hx 5).trans rfl
 have x6 : w10.cell? ⟨w.heap.size, 6, none⟩ = some (.slice A4 B.length c4) := (blk_cell HZ.out.hx 6).trans rfl
 have x7 : w10.cell? ⟨w.heap.size, 7, none⟩ = some (.bool els) := (blk_cell HZ.out.hx 7).trans rfl
 have x8 : w10.cell? ⟨w.heap.size, 8, none⟩ = some (.int .i64 sy) := (blk_cell HZ.out.hx 8).trans rfl
 have x9 : w10.cell? ⟨w.heap.size, 9, none⟩ = some (.slice A5 wd.length c5) := (blk_cell HZ.out.hx 9).trans rfl
 have y0 : w10.cell? ⟨bp, 0, none⟩ = some (.int .i64 s0) := (blk_cell HZ.out.hp 0).trans rfl
 have y1 : w10.cell? ⟨bp, 1, none⟩ = some (.slice B0 N0.length d0) := (blk_cell HZ.out.hp 1).trans rfl
 have y2 : w10.cell? ⟨bp, 2, none⟩ = some (.slice B1 O0.length d1) := (blk_cell HZ.out.hp 2).trans rfl
 have y3 : w10.cell? ⟨bp, 3, none⟩ = some (.int .i64 s1) := (blk_cell HZ.out.hp 3).trans rfl
 have y4 : w10.cell? ⟨bp, 4, none⟩ = some (.slice B2 N1.length d2) := (blk_cell HZ.out.hp 4).trans rfl
 have y5 : w10.cell? ⟨bp, 5, none⟩ = some (.slice B3 O1.length d3) := (blk_cell HZ.out.hp 5).trans rfl
 have y6 : w10.cell? ⟨bp, 6, none⟩ = some (.slice B4 B.length d4) := (blk_cell HZ.out.hp 6).trans rfl
 have y7 : w10.cell? ⟨bp, 7, none⟩ = some (.bool els) := (blk_cell HZ.out.hp 7).trans rfl
 go_wp2_with fail
 refine (psize_c (els := els) (s0 := s0) (s1 := s1) HZ.out.lq.cp).mono ?_
 rintro e w11 ⟨he, hb⟩
 rw [← SZ.out] at he
 subst he
 replace Kp := Aside0.mk (And.intro (Kd.C_below Kp.out.1 hb) Kp.out.2)
 replace Kx := Aside0.mk (And.intro (Kd.C_below Kx.out.1 hb) Kx.out.2)
 replace Kq := Aside0.mk (And.intro (Kd.C_below Kq.out.1 hb) Kq.out.2)
 replace Ky := Aside0.mk (And.intro (Kd.C_below Ky.out.1 hb) Ky.out.2)
 replace HZ := Aside0.mk (HZ.out.step hb)
 clear hb
 clear x0 x1 x2 x3 x4 x5 x6 x7 x8 x9 y0 y1 y2 y3 y4 y5 y6 y7
 have x0 : w11.cell? ⟨w.heap.size, 0, none⟩ = some (.int .i64 s0) := (blk_cell HZ.out.hx 0).trans rfl
 have x1 : w11.cell? ⟨w.heap.size, 1, none⟩ = some (.slice A0 N0.length c0) := (blk_cell HZ.out.hx 1).trans rfl
 have x2 : w11.cell? ⟨w.heap.size, 2, none⟩ = some (.slice A1 O0.length c1) := (blk_cell HZ.out.hx 2).trans rfl
 have x3 : w11.cell? ⟨w.heap.size, 3, none⟩ = some (.int .i64 s1) := (blk_cell HZ.out.hx 3).trans rfl
 have x4 : w11.cell? ⟨w.heap.size, 4, none⟩ = some (.slice A2 N1.length c2) := (blk_cell HZ.out.hx 4).trans rfl
 have x5 : w11.cell? ⟨w.heap.size, 5, none⟩ = some (.slice A3 O1.length c3) := (blk_cell HZ.out.hx 5).trans rfl
 have x6 : w11.cell? ⟨w.heap.size, 6, none⟩ = some (.slice A4 B.length c4) := (blk_cell HZ.out.hx 6).trans rfl
 have x7 : w11.cell? ⟨w.heap.size, 7, none⟩ = some (.bool els) := (blk_cell HZ.out.hx 7).trans rfl
 have x8 : w11.cell? ⟨w.heap.size, 8, none⟩ = some (.int .i64 sy) := (blk_cell HZ.out.hx 8).trans rfl
 have x9 : w11.cell? ⟨w.heap.size, 9, none⟩ = some (.slice A5 wd.length c5) := (blk_cell HZ.out.hx 9).trans rfl
 have y0 : w11.cell? ⟨bp, 0, none⟩ = some (.int .i64 s0) := (blk_cell HZ.out.hp 0).trans rfl
 have y1 : w11.cell? ⟨bp, 1, none⟩ = some (.slice B0 N0.length d0) := (blk_cell HZ.out.hp 1).trans rfl
 have y2 : w11.cell? ⟨bp, 2, none⟩ = some (.slice B1 O0.length d1) := (blk_cell HZ.out.hp 2).trans rfl
 have y3 : w11.cell? ⟨bp, 3, none⟩ = some (.int .i64 s1) := (blk_cell HZ.out.hp 3).trans rfl
 have y4 : w11.cell? ⟨bp, 4, none⟩ = some (.slice B2 N1.length d2) := (blk_cell HZ.out.hp 4).trans rfl
 have y5 : w11.cell? ⟨bp, 5, none⟩ = some (.slice B3 O1.length d3) := (blk_cell HZ.out.hp 5).trans rfl
 have y6 : w11.cell? ⟨bp, 6, none⟩ = some (.slice B4 B.length d4) := (blk_cell HZ.out.hp 6).trans rfl
 have y7 : w11.cell? ⟨bp, 7, none⟩ = some (.bool els) := (blk_cell HZ.out.hp 7).trans rfl
 go_wp2_with fail
 clear Kp Kx Kq Ky
 refine (ints_c HZ.out.word.1 HZ.out.word.2 (Kd.C_below HW.out.1 HZ.out.below) HW.out.2).mono ?_
 rintro e w12 ⟨rfl, hb⟩
 replace HZ := Aside0.mk (HZ.out.step hb)
 clear hb
 clear x0 x1 x2 x3 x4 x5 x6 x7 x8 x9 y0 y1 y2 y3 y4 y5 y6 y7
 have x0 : w12.cell? ⟨w.heap.size, 0, none⟩ = some (.int .i64 s0) := (blk_cell HZ.out.hx 0).trans rfl
 have x1 : w12.cell? ⟨w.heap.size, 1, none⟩ = some (.slice A0 N0.length c0) := (blk_cell HZ.out.hx 1).trans rfl
 have x2 : w12.cell? ⟨w.heap.size, 2, none⟩ = some (.slice A1 O0.length c1) := (blk_cell HZ.out.hx 2).trans rfl
 have x3 : w12.cell? ⟨w.heap.size, 3, none⟩ = some (.int .i64 s1) := (blk_cell HZ.out.hx 3).trans rfl
 have x4 : w12.cell? ⟨w.heap.size, 4, none⟩ = some (.slice A2 N1.length c2) := (blk_cell HZ.out.hx 4).trans rfl
 have x5 : w12.cell? ⟨w.heap.size, 5, none⟩ = some (.slice A3 O1.length c3) := (blk_cell HZ.out.hx 5).trans rfl
 have x6 : w12.cell? ⟨w.heap.size, 6, none⟩ = some (.slice A4 B.length c4) := (blk_cell HZ.out.hx 6).trans rfl
 have x7 : w12.cell? ⟨w.heap.size, 7, none⟩ = some (.bool els) := (blk_cell HZ.out.hx 7).trans rfl
 have x8 : w12.cell? ⟨w.heap.size, 8, none⟩ = some (.int .i64 sy) := (blk_cell HZ.out.hx 8).trans rfl
 have x9 : w12.cell? ⟨w.heap.size, 9, none⟩ = some (.slice A5 wd.length c5) := (blk_cell HZ.out.hx 9).trans rfl
 have y0 : w12.cell? ⟨bp, 0, none⟩ = some (.int .i64 s0) := (blk_cell HZ.out.hp 0).trans rfl
 have y1 : w12.cell? ⟨bp, 1, none⟩ = some (.slice B0 N0.length d0) := (blk_cell HZ.out.hp 1).trans rfl
 have y2 : w12.cell? ⟨bp, 2, none⟩ = some (.slice B1 O0.length d1) := (blk_cell HZ.out.hp 2).trans rfl
 have y3 : w12.cell? ⟨bp, 3, none⟩ = some (.int .i64 s1) := (blk_cell HZ.out.hp 3).trans rfl
 have y4 : w12.cell? ⟨bp, 4, none⟩ = some (.slice B2 N1.length d2) := (blk_cell HZ.out.hp 4).trans rfl
 have y5 : w12.cell? ⟨bp, 5, none⟩ = some (.slice B3 O1.length d3) := (blk_cell HZ.out.hp 5).trans rfl
 have y6 : w12.cell? ⟨bp, 6, none⟩ = some (.slice B4 B.length d4) := (blk_cell HZ.out.hp 6).trans rfl
 have y7 : w12.cell? ⟨bp, 7, none⟩ = some (.bool els) := (blk_cell HZ.out.hp 7).trans rfl
 go_wp2_with fail
 refine (listLeft_calls W4 q4 wd _ HZ.out.wmarks.1 HZ.out.wmarks.2 HL.out).mono ?_
 rintro e w13 ⟨rfl, hb⟩
 replace HZ := Aside0.mk (HZ.out.step hb)
 clear hb
 clear x0 x1 x2 x3 x4 x5 x6 x7 x8 x9 y0 y1 y2 y3 y4 y5 y6 y7
 have x0 : w13.cell? ⟨w.heap.size, 0, none⟩ = some (.int .i64 s0) := (blk_cell HZ.out.hx 0).trans rfl
 have x1 : w13.cell? ⟨w.heap.size, 1, none⟩ = some (.slice A0 N0.length c0) := (blk_cell HZ.out.hx 1).trans rfl
 have x2 : w13.cell? ⟨w.heap.size, 2, none⟩ = some (.slice A1 O0.length c1) := (blk_cell HZ.out.hx 2).trans rfl
 have x3 : w13.cell? ⟨w.heap.size, 3, none⟩ = some (.int .i64 s1) := (blk_cell HZ.out.hx 3).trans rfl
 have x4 : w13.cell? ⟨w.heap.size, 4, none⟩ = some (.slice A2 N1.length c2) := (blk_cell HZ.out.hx 4).trans rfl
 have x5 : w13.cell? ⟨w.heap.size, 5, none⟩ = some (.slice A3 O1.length c3) := (blk_cell HZ.out.hx 5).trans rfl
 have x6 : w13.cell? ⟨w.heap.size, 6, none⟩ = some (.slice A4 B.length c4) := (blk_cell HZ.out.hx 6).trans rfl
 have x7 : w13.cell? ⟨w.heap.size, 7, none⟩ = some (.bool els) := (blk_cell HZ.out.hx 7).trans rfl
 have x8 : w13.cell? ⟨w.heap.size, 8, none⟩ = some (.int .i64 sy) := (blk_cell HZ.out.hx 8).trans rfl
 have x9 : w13.cell? ⟨w.heap.size, 9, none⟩ = some (.slice A5 wd.length c5) := (blk_cell HZ.out.hx 9).trans rfl
 have y0 : w13.cell? ⟨bp, 0, none⟩ = some (.int .i64 s0) := (blk_cell HZ.out.hp 0).trans rfl
 have y1 : w13.cell? ⟨bp, 1, none⟩ = some (.slice B0 N0.length d0) := (blk_cell HZ.out.hp 1).trans rfl
 have y2 : w13.cell? ⟨bp, 2, none⟩ = some (.slice B1 O0.length d1) := (blk_cell HZ.out.hp 2).trans rfl
 have y3 : w13.cell? ⟨bp, 3, none⟩ = some (.int .i64 s1) := (blk_cell HZ.out.hp 3).trans rfl
 have y4 : w13.cell? ⟨bp, 4, none⟩ = some (.slice B2 N1.length d2) := (blk_cell HZ.out.hp 4).trans rfl
 have y5 : w13.cell? ⟨bp, 5, none⟩ = some (.slice B3 O1.length d3) := (blk_cell HZ.out.hp 5).trans rfl
 have y6 : w13.cell? ⟨bp, 6, none⟩ = some (.slice B4 B.length d4) := (blk_cell HZ.out.hp 6).trans rfl
 have y7 : w13.cell? ⟨bp, 7, none⟩ = some (.bool els) := (blk_cell HZ.out.hp 7).trans rfl
 go_wp2_with fail
 refine (kleft_calls (els := els) (s0 := s0) (s1 := s1) HZ.out.lq HN.out HR.out).mono ?_
 rintro e w14 ⟨rfl, hb⟩
 replace HZ := Aside0.mk (HZ.out.step hb)
 clear hb
 clear x0 x1 x2 x3 x4 x5 x6 x7 x8 x9 y0 y1 y2 y3 y4 y5 y6 y7
 have x0 : w14.cell? ⟨w.heap.size, 0, none⟩ = some (.int .i64 s0) := (blk_cell HZ.out.hx 0).trans rfl
 have x1 : w14.cell? ⟨w.heap.size, 1, none⟩ = some (.slice A0 N0.length c0) := (blk_cell HZ.out.hx 1).trans rfl
 have x2 : w14.cell? ⟨w.heap.size, 2, none⟩ = some (.slice A1 O0.length c1) := (blk_cell HZ.out.hx 2).trans rfl
 have x3 : w14.cell? ⟨w.heap.size, 3, none⟩ = some (.int .i64 s1) := (blk_cell HZ.out.hx 3).trans rfl
 have x4 : w14.cell? ⟨w.heap.size, 4, none⟩ = some (.slice A2 N1.length c2) := (blk_cell HZ.out.hx 4).trans rfl
 have x5 : w14.cell? ⟨w.heap.size, 5, none⟩ = some (.slice A3 O1.length c3) := (blk_cell HZ.out.hx 5).trans rfl
 have x6 : w14.cell? ⟨w.heap.size, 6, none⟩ = some (.slice A4 B.length c4) := (blk_cell HZ.out.hx 6).trans rfl
 have x7 : w14.cell? ⟨w.heap.size, 7, none⟩ = some (.bool els) := (blk_cell HZ.out.hx 7).trans rfl
 have x8 : w14.cell? ⟨w.heap.size, 8, none⟩ = some (.int .i64 sy) := (blk_cell HZ.out.hx 8).trans rfl
 have x9 : w14.cell? ⟨w.heap.size, 9, none⟩ = some (.slice A5 wd.length c5) := (blk_cell HZ.out.hx 9).trans rfl
 have y0 : w14.cell? ⟨bp, 0, none⟩ = some (.int .i64 s0) := (blk_cell HZ.out.hp 0).trans rfl
 have y1 : w14.cell? ⟨bp, 1, none⟩ = some (.slice B0 N0.length d0) := (blk_cell HZ.out.hp 1).trans rfl
 have y2 : w14.cell? ⟨bp, 2, none⟩ = some (.slice B1 O0.length d1) := (blk_cell HZ.out.hp 2).trans rfl
 have y3 : w14.cell? ⟨bp, 3, none⟩ = some (.int .i64 s1) := (blk_cell HZ.out.hp 3).trans rfl
 have y4 : w14.cell? ⟨bp, 4, none⟩ = some (.slice B2 N1.length d2) := (blk_cell HZ.out.hp 4).trans rfl
 have y5 : w14.cell? ⟨bp, 5, none⟩ = some (.slice B3 O1.length d3) := (blk_cell HZ.out.hp 5).trans rfl
 have y6 : w14.cell? ⟨bp, 6, none⟩ = some (.slice B4 B.length d4) := (blk_cell HZ.out.hp 6).trans rfl
 have y7 : w14.cell? ⟨bp, 7, none⟩ = some (.bool els) := (blk_cell HZ.out.hp 7).trans rfl
 go_wp2_with fail
 refine (same_c (els := els) (s0 := s0) (s1 := s1) HZ.out.lq.cp (H.out.below HZ.out.below)).mono ?_
 rintro e w15 ⟨rfl, hb⟩
 replace HZ := Aside0.mk (HZ.out.step hb)
 clear hb
 clear x0 x1 x2 x3 x4 x5 x6 x7 x8 x9 y0 y1 y2 y3 y4 y5 y6 y7
 go_upto_region 12 with fail
 replace HZ := Aside0.mk (HZ.out.step (below_drew (Below.refl _ w15)))
 refine start_ (n := 39) (S := fun w' => w'.cell? ⟨w.heap.size, 0, none⟩ = some (.int .i64 s0) ∧ w'.cell? ⟨w.heap.size, 1, none⟩ = some (.slice A0 N0.length c0) ∧ w'.cell? ⟨w.heap.size, 2, none⟩ = some (.slice A1 O0.length c1) ∧ w'.cell? ⟨w.heap.size, 3, none⟩ = some (.int .i64 s1) ∧ w'.cell? ⟨w.heap.size, 4, none⟩ = some (.slice A2 N1.length c2) ∧ w'.cell? ⟨w.heap.size, 5, none⟩ = some (.slice A3 O1.length c3) ∧ w'.cell? ⟨w.heap.size, 6, none⟩ = some (.slice A4 B.length c4) ∧ w'.cell? ⟨w.heap.size, 7, none⟩ = some (.bool els) ∧ w'.cell? ⟨w.heap.size, 8, none⟩ = some (.int .i64 sy) ∧ w'.cell? ⟨w.heap.size, 9, none⟩ = some (.slice A5 wd.length c5)) (ds := []) #[false, false, false, false, false, false, false, false, false, false, false, false, false, false, false, false, false, false, false, false, false, false, false, false, false, false, false, false, false, false, false, false, false, false, false, false, false, false, false] (by kernel_rfl) rfl rfl (zx HZ.out) (fun hHeld => ?_)
 refine with_tabW plr.tab12 plr.bits12 (fun HT_ HW_ => ?_)
 generalize w15.drew = wn at HZ hHeld ⊢
 refine pure_ (i := 0) (N := some 88) (v := ?_) (a' := ?_) #[true, false, false, false, false, false, false, false, false, false, false, false, false, false, false, false, false, false, false, false, false, false, false, false, false, false, false, false, false, false, false, false, false, false, false, false, false, false, false] rfl rfl (any_of HT_.out (by kernel_rfl)) (fun _ _ _ h => h) (Or.inl ⟨by rfl, ?_⟩) ?_ ?_
 rotate_left
 ·intro w'
  go_simp
  with_reducible rfl
 rotate_left
 ·simp only [Act.put, List.setIfInBounds_toArray, List.set_cons_zero, List.set_cons_succ, i64_w, i32_w]
  rfl
 refine pure_ (i := 2) (N := some 90) (v := ?_) (a' := ?_) #[true, false, true, false, false, false, false, false, false, false, false, false, false, false, false, false, false, false, false, false, false, false, false, false, false, false, false, false, false, false, false, false, false, false, false, false, false, false, false] rfl rfl (any_of HT_.out (by kernel_rfl)) (fun _ _ _ h => h) (Or.inl ⟨by rfl, ?_⟩) ?_ ?_
 rotate_left
 ·intro w'
  go_simp
  with_reducible rfl
 rotate_left
 ·simp only [Act.put, List.setIfInBounds_toArray, List.set_cons_zero, List.set_cons_succ, i64_w, i32_w]
  rfl
 refine take_ (i := 3) (N := some 91) (v := ?_) (a' := ?_) #[true, false, true, true, false, false, false, false, false, false, false, false, false, false, false, false, false, false, false, false, false, false, false, false, false, false, false, false, false, false, false, false, false, false, false, false, false, false, false] rfl rfl (take_ofW HT_.out HW_.out (by kernel_rfl)) (fun _ _ _ h => h) (Or.inl ⟨by rfl, ?_⟩) hHeld ?_ ?_
 rotate_left
 ·rintro w' ⟨s0, s1, s2, s3, s4, s5, s6, s7, s8, s9⟩
  go_simp
  with_reducible rfl
 rotate_left
 ·simp only [Act.put, List.setIfInBounds_toArray, List.set_cons_zero, List.set_cons_succ, i64_w, i32_w]
  rfl
 refine pure_ (i := 4) (N := some 92) (v := ?_) (a' := ?_) #[true, false, true, true, true, false, false, false, false, false, false, false, false, false, false, false, false, false, false, false, false, false, false, false, false, false, false, false, false, false, false, false, false, false, false, false, false, false, false] rfl rfl (any_of HT_.out (by kernel_rfl)) (fun _ _ _ h => h) (Or.inl ⟨by rfl, ?_⟩) ?_ ?_
 rotate_left
 ·intro w'
  go_simp
  with_reducible rfl
 rotate_left
 ·simp only [Act.put, List.setIfInBounds_toArray, List.set_cons_zero, List.set_cons_succ, i64_w, i32_w]
  rfl
 refine take_ (i := 5) (N := some 93) (v := ?_) (a' := ?_) #[true, false, true, true, true, true, false, false, false, false, false, false, false, false, false, false, false, false, false, false, false, false, false, false, false, false, false, false, false, false, false, false, false, false, false, false, false, false, false] rfl rfl (take_ofW HT_.out HW_.out (by kernel_rfl)) (fun _ _ _ h => h) (Or.inl ⟨by rfl, ?_⟩) hHeld ?_ ?_
 rotate_left
 ·rintro w' ⟨s0, s1, s2, s3, s4, s5, s6, s7, s8, s9⟩
  go_simp
  with_reducible rfl
 rotate_left
 ·simp only [Act.put, List.setIfInBounds_toArray, List.set_cons_zero, List.set_cons_succ, i64_w, i32_w]
  rfl
 refine one_ (i := 1) (N := some 89) #[true, true, true, true, true, true, false, false, false, false, false, false, false, false, false, false, false, false, false, false, false, false, false, false, false, false, false, false, false, false, false, false, false, false, false, false, false, false, false] rfl rfl (one_of HT_.out (by kernel_rfl)) (by decide) (fun K hK => ?_)
 refine goes_ Tryd.func17 (by kernel_rfl) rfl #[errI (errV a0) qf] (by rfl) rfl rfl (by (try simp only [List.map_toArray, List.map_cons, List.map_nil]); first | done | rfl) ?_
 refine (errI_num qf QF1.out (HS.out.step HZ.out.below)).mono ?_
 rintro e wm ⟨rfl, hb⟩
 refine ⟨_, rfl, ?_⟩
 skip
 replace HZ := Aside0.mk (HZ.out.step hb)
 obtain ⟨wn, rfl⟩ : ∃ wn, wn = wm := ⟨_, rfl⟩
 refine hK.out _ _ (zx HZ.out) (fun hHeld => ?_)
 clear hK K hb
 refine norm_ (a' := ?_) ?_ ?_
 rotate_left
 ·show Act.put _ (some 89) _ = _
  simp only [Act.put, List.setIfInBounds_toArray, List.set_cons_zero, List.set_cons_succ, i64_w, i32_w]
  rfl
 refine one_ (i := 6) (N := some 94) #[true, true, true, true, true, true, true, false, false, false, false, false, false, false, false, false, false, false, false, false, false, false, false, false, false, false, false, false, false, false, false, false, false, false, false, false, false, false, false] rfl rfl (one_of HT_.out (by kernel_rfl)) (by decide) (fun K hK => ?_)
 refine goes_ Tryd.func46 (by kernel_rfl) rfl #[.agg #[.int .i64 s0, .slice A0 N0.length c0, .slice A1 O0.length c1, .int .i64 s1, .slice A2 N1.length c2, .slice A3 O1.length c3, .slice A4 B.length c4, .bool els], .int .i64 sy] (by rfl) rfl rfl (by (try simp only [List.map_toArray, List.map_cons, List.map_nil]); first | done | rfl) ?_
 refine (dchk_c (els := els) (s0 := s0) (s1 := s1) (H.out.below HZ.out.below) sy).mono ?_
 rintro e wm ⟨rfl, hb⟩
 refine ⟨_, rfl, ?_⟩
 rw [← QF.out]
 replace HZ := Aside0.mk (HZ.out.step hb)
 obtain ⟨wn, rfl⟩ : ∃ wn, wn = wm := ⟨_, rfl⟩
 refine hK.out _ _ (zx HZ.out) (fun hHeld => ?_)
 clear hK K hb
 refine norm_ (a' := ?_) ?_ ?_
 rotate_left
 ·show Act.put _ (some 94) _ = _
  simp only [Act.put, List.setIfInBounds_toArray, List.set_cons_zero, List.set_cons_succ, i64_w, i32_w]
  rfl
 refine pure_ (i := 7) (N := some 95) (v := .bool false) (a' := ?_) #[true, true, true, true, true, true, true, true, false, false, false, false, false, false, false, false, false, false, false, false, false, false, false, false, false, false, false, false, false, false, false, false, false, false, false, false, false, false, false] rfl rfl (any_of HT_.out (by kernel_rfl)) (fun _ _ _ h => h) (Or.inl ⟨by rfl, ?_⟩) ?_ ?_
 ·intro w'
  go_simp
  try simp
 rotate_left
 ·simp only [Act.put, List.setIfInBounds_toArray, List.set_cons_zero, List.set_cons_succ, i64_w, i32_w]
  rfl
 refine pure_ (i := 8) (N := some 96) (v := ?_) (a' := ?_) #[true, true, true, true, true, true, true, true, true, false, false, false, false, false, false, false, false, false, false, false, false, false, false, false, false, false, false, false, false, false, false, false, false, false, false, false, false, false, false] rfl rfl (any_of HT_.out (by kernel_rfl)) (fun _ _ _ h => h) (Or.inl ⟨by rfl, ?_⟩) ?_ ?_
 rotate_left
 ·intro w'
  go_simp
  with_reducible rfl
 rotate_left
 ·simp only [Act.put, List.setIfInBounds_toArray, List.set_cons_zero, List.set_cons_succ, i64_w, i32_w]
  rfl
 refine pure_ (i := 9) (N := some 97) (v := ?_) (a' := ?_) #[true, true, true, true, true, true, true, true, true, true, false, false, false, false, false, false, false, false, false, false, false, false, false, false, false, false, false, false, false, false, false, false, false, false, false, false, false, false, false] rfl rfl (any_of HT_.out (by kernel_rfl)) (fun _ _ _ h => h) (Or.inl ⟨by rfl, ?_⟩) ?_ ?_
 rotate_left
 ·intro w'
  go_simp
  with_reducible rfl
 rotate_left
 ·simp only [Act.put, List.setIfInBounds_toArray, List.set_cons_zero, List.set_cons_succ, i64_w, i32_w]
  rfl
 refine pure_ (i := 10) (N := some 98) (v := ?_) (a' := ?_) #[true, true, true, true, true, true, true, true, true, true, true, false, false, false, false, false, false, false, false, false, false, false, false, false, false, false, false, false, false, false, false, false, false, false, false, false, false, false, false] rfl rfl (any_of HT_.out (by kernel_rfl)) (fun _ _ _ h => h) (Or.inl ⟨by rfl, ?_⟩) ?_ ?_
 rotate_left
 ·intro w'
  go_simp
  with_reducible rfl
 rotate_left
 ·simp only [Act.put, List.setIfInBounds_toArray, List.set_cons_zero, List.set_cons_succ, i64_w, i32_w]
  rfl
 refine take_ (i := 11) (N := some 99) (v := ?_) (a' := ?_) #[true, true, true, true, true, true, true, true, true, true, true, true, false, false, false, false, false, false, false, false, false, false, false, false, false, false, false, false, false, false, false, false, false, false, false, false, false, false, false] rfl rfl (take_ofW HT_.out HW_.out (by kernel_rfl)) (fun _ _ _ h => h) (Or.inl ⟨by rfl, ?_⟩) hHeld ?_ ?_
 rotate_left
 ·rintro w' ⟨s0, s1, s2, s3, s4, s5, s6, s7, s8, s9⟩
  go_simp
  with_reducible rfl
 rotate_left
 ·simp only [Act.put, List.setIfInBounds_toArray, List.set_cons_zero, List.set_cons_succ, i64_w, i32_w]
  rfl
 refine one_ (i := 12) (N := some 100) #[true, true, true, true, true, true, true, true, true, true, true, true, true, false, false, false, false, false, false, false, false, false, false, false, false, false, false, false, false, false, false, false, false, false, false, false, false, false, false] rfl rfl (one_of HT_.out (by kernel_rfl)) (by decide) (fun K hK => ?_)
 refine goes_ Tryd.func47 (by kernel_rfl) rfl #[.agg #[.int .i64 s0, .slice A0 N0.length c0, .slice A1 O0.length c1, .int .i64 s1, .slice A2 N1.length c2, .slice A3 O1.length c3, .slice A4 B.length c4, .bool els]] (by rfl) rfl rfl (by (try simp only [List.map_toArray, List.map_cons, List.map_nil]); first | done | rfl) ?_
 refine (dsize_c (els := els) (s0 := s0) (s1 := s1) (H.out.below HZ.out.below)).mono ?_
 rintro e wm ⟨rfl, hb⟩
 refine ⟨_, rfl, ?_⟩
 rw [← SZ.out]
 replace HZ := Aside0.mk (HZ.out.step hb)
 obtain ⟨wn, rfl⟩ : ∃ wn, wn = wm := ⟨_, rfl⟩
 refine hK.out _ _ (zx HZ.out) (fun hHeld => ?_)
 clear hK K hb
 refine norm_ (a' := ?_) ?_ ?_
 rotate_left
 ·show Act.put _ (some 100) _ = _
  simp only [Act.put, List.setIfInBounds_toArray, List.set_cons_zero, List.set_cons_succ, i64_w, i32_w]
  rfl
 refine pure_ (i := 13) (N := some 101) (v := .bool false) (a' := ?_) #[true, true, true, true, true, true, true, true, true, true, true, true, true, true, false, false, false, false, false, false, false, false, false, false, false, false, false, false, false, false, false, false, false, false, false, false, false, false, false] rfl rfl (any_of HT_.out (by kernel_rfl)) (fun _ _ _ h => h) (Or.inl ⟨by rfl, ?_⟩) ?_ ?_
 ·intro w'
  go_simp
  try simp
 rotate_left
 ·simp only [Act.put, List.setIfInBounds_toArray, List.set_cons_zero, List.set_cons_succ, i64_w, i32_w]
  rfl
 refine pure_ (i := 14) (N := some 102) (v := ?_) (a' := ?_) #[true, true, true, true, true, true, true, true, true, true, true, true, true, true, true, false, false, false, false, false, false, false, false, false, false, false, false, false, false, false, false, false, false, false, false, false, false, false, false] rfl rfl (any_of HT_.out (by kernel_rfl)) (fun _ _ _ h => h) (Or.inl ⟨by rfl, ?_⟩) ?_ ?_
 rotate_left
 ·intro w'
  go_simp
  with_reducible rfl
 rotate_left
 ·simp only [Act.put, List.setIfInBounds_toArray, List.set_cons_zero, List.set_cons_succ, i64_w, i32_w]
  rfl
 refine pure_ (i := 15) (N := some 103) (v := ?_) (a' := ?_) #[true, true, true, true, true, true, true, true, true, true, true, true, true, true, true, true, false, false, false, false, false, false, false, false, false, false, false, false, false, false, false, false, false, false, false, false, false, false, false] rfl rfl (any_of HT_.out (by kernel_rfl)) (fun _ _ _ h => h) (Or.inl ⟨by rfl, ?_⟩) ?_ ?_
 rotate_left
 ·intro w'
  go_simp
  with_reducible rfl
 rotate_left
 ·simp only [Act.put, List.setIfInBounds_toArray, List.set_cons_zero, List.set_cons_succ, i64_w, i32_w]
  rfl
 refine pure_ (i := 16) (N := some 104) (v := ?_) (a' := ?_) #[true, true, true, true, true, true, true, true, true, true, true, true, true, true, true, true, true, false, false, false, false, false, false, false, false, false, false, false, false, false, false, false, false, false, false, false, false, false, false] rfl rfl (any_of HT_.out (by kernel_rfl)) (fun _ _ _ h => h) (Or.inl ⟨by rfl, ?_⟩) ?_ ?_
 rotate_left
 ·intro w'
  go_simp
  with_reducible rfl
 rotate_left
 ·simp only [Act.put, List.setIfInBounds_toArray, List.set_cons_zero, List.set_cons_succ, i64_w, i32_w]
  rfl
 refine pure_ (i := 17) (N := some 105) (v := ?_) (a' := ?_) #[true, true, true, true, true, true, true, true, true, true, true, true, true, true, true, true, true, true, false, false, false, false, false, false, false, false, false, false, false, false, false, false, false, false, false, false, false, false, false] rfl rfl (any_of HT_.out (by kernel_rfl)) (fun _ _ _ h => h) (Or.inl ⟨by rfl, ?_⟩) ?_ ?_
 rotate_left
 ·intro w'
  go_simp
  with_reducible rfl
 rotate_left
 ·simp only [Act.put, List.setIfInBounds_toArray, List.set_cons_zero, List.set_cons_succ, i64_w, i32_w]
  rfl
 refine pure_ (i := 18) (N := some 106) (v := ?_) (a' := ?_) #[true, true, true, true, true, true, true, true, true, true, true, true, true, true, true, true, true, true, true, false, false, false, false, false, false, false, false, false, false, false, false, false, false, false, false, false, false, false, false] rfl rfl (any_of HT_.out (by kernel_rfl)) (fun _ _ _ h => h) (Or.inl ⟨by rfl, ?_⟩) ?_ ?_
 rotate_left
 ·intro w'
  go_simp
  with_reducible rfl
 rotate_left
 ·simp only [Act.put, List.setIfInBounds_toArray, List.set_cons_zero, List.set_cons_succ, i64_w, i32_w]
  rfl
 refine pure_ (i := 19) (N := some 107) (v := ?_) (a' := ?_) #[true, true, true, true, true, true, true, true, true, true, true, true, true, true, true, true, true, true, true, true, false, false, false, false, false, false, false, false, false, false, false, false, false, false, false, false, false, false, false] rfl rfl (any_of HT_.out (by kernel_rfl)) (fun _ _ _ h => h) (Or.inl ⟨by rfl, ?_⟩) ?_ ?_
 rotate_left
 ·intro w'
  go_simp
  with_reducible rfl
 rotate_left
 ·simp only [Act.put, List.setIfInBounds_toArray, List.set_cons_zero, List.set_cons_succ, i64_w, i32_w]
  rfl
 refine pure_ (i := 20) (N := some 108) (v := ?_) (a' := ?_) #[true, true, true, true, true, true, true, true, true, true, true, true, true, true, true, true, true, true, true, true, true, false, false, false, false, false, false, false, false, false, false, false, false, false, false, false, false, false, false] rfl rfl (any_of HT_.out (by kernel_rfl)) (fun _ _ _ h => h) (Or.inl ⟨by rfl, ?_⟩) ?_ ?_
 rotate_left
 ·intro w'
  go_simp
  with_reducible rfl
 rotate_left
 ·simp only [Act.put, List.setIfInBounds_toArray, List.set_cons_zero, List.set_cons_succ, i64_w, i32_w]
  rfl
 refine pure_ (i := 21) (N := some 109) (v := ?_) (a' := ?_) #[true, true, true, true, true, true, true, true, true, true, true, true, true, true, true, true, true, true, true, true, true, true, false, false, false, false, false, false, false, false, false, false, false, false, false, false, false, false, false] rfl rfl (any_of HT_.out (by kernel_rfl)) (fun _ _ _ h => h) (Or.inl ⟨by rfl, ?_⟩) ?_ ?_
 rotate_left
 ·intro w'
  go_simp
  with_reducible rfl
 rotate_left
 ·simp only [Act.put, List.setIfInBounds_toArray, List.set_cons_zero, List.set_cons_succ, i64_w, i32_w]
  rfl
 refine pure_ (i := 22) (N := some 110) (v := ?_) (a' := ?_) #[true, true, true, true, true, true, true, true, true, true, true, true, true, true, true, true, true, true, true, true, true, true, true, false, false, false, false, false, false, false, false, false, false, false, false, false, false, false, false] rfl rfl (any_of HT_.out (by kernel_rfl)) (fun _ _ _ h => h) (Or.inl ⟨by rfl, ?_⟩) ?_ ?_
 rotate_left
 ·intro w'
  go_simp
  with_reducible rfl
 rotate_left
 ·simp only [Act.put, List.setIfInBounds_toArray, List.set_cons_zero, List.set_cons_succ, i64_w, i32_w]
  rfl
 refine pure_ (i := 23) (N := some 111) (v := ?_) (a' := ?_) #[true, true, true, true, true, true, true, true, true, true, true, true, true, true, true, true, true, true, true, true, true, true, true, true, false, false, false, false, false, false, false, false, false, false, false, false, false, false, false] rfl rfl (any_of HT_.out (by kernel_rfl)) (fun _ _ _ h => h) (Or.inl ⟨by rfl, ?_⟩) ?_ ?_
 rotate_left
 ·intro w'
  go_simp
  with_reducible rfl
 rotate_left
 ·simp only [Act.put, List.setIfInBounds_toArray, List.set_cons_zero, List.set_cons_succ, i64_w, i32_w]
  rfl
 refine pure_ (i := 24) (N := some 112) (v := ?_) (a' := ?_) #[true, true, true, true, true, true, true, true, true, true, true, true, true, true, true, true, true, true, true, true, true, true, true, true, true, false, false, false, false, false, false, false, false, false, false, false, false, false, false] rfl rfl (any_of HT_.out (by kernel_rfl)) (fun _ _ _ h => h) (Or.inl ⟨by rfl, ?_⟩) ?_ ?_
 rotate_left
 ·intro w'
  go_simp
  with_reducible rfl
 rotate_left
 ·simp only [Act.put, List.setIfInBounds_toArray, List.set_cons_zero, List.set_cons_succ, i64_w, i32_w]
  rfl
 refine pure_ (i := 26) (N := some 114) (v := ?_) (a' := ?_) #[true, true, true, true, true, true, true, true, true, true, true, true, true, true, true, true, true, true, true, true, true, true, true, true, true, false, true, false, false, false, false, false, false, false, false, false, false, false, false] rfl rfl (any_of HT_.out (by kernel_rfl)) (fun _ _ _ h => h) (Or.inl ⟨by rfl, ?_⟩) ?_ ?_
 rotate_left
 ·intro w'
  go_simp
  with_reducible rfl
 rotate_left
 ·simp only [Act.put, List.setIfInBounds_toArray, List.set_cons_zero, List.set_cons_succ, i64_w, i32_w]
  rfl
 refine one_ (i := 25) (N := some 113) #[true, true, true, true, true, true, true, true, true, true, true, true, true, true, true, true, true, true, true, true, true, true, true, true, true, true, true, false, false, false, false, false, false, false, false, false, false, false, false] rfl rfl (one_of HT_.out (by kernel_rfl)) (by decide) (fun K hK => ?_)
 refine goes_ Tryd.func17 (by kernel_rfl) rfl #[errI (errV a0) qx] (by rfl) rfl rfl (by (try simp only [List.map_toArray, List.map_cons, List.map_nil]); first | done | rfl) ?_
 refine (errI_num qx QX1.out (HS.out.step HZ.out.below)).mono ?_
 rintro e wm ⟨rfl, hb⟩
 refine ⟨_, rfl, ?_⟩
 skip
 replace HZ := Aside0.mk (HZ.out.step hb)
 obtain ⟨wn, rfl⟩ : ∃ wn, wn = wm := ⟨_, rfl⟩
 refine hK.out _ _ (zx HZ.out) (fun hHeld => ?_)
 clear hK K hb
 refine norm_ (a' := ?_) ?_ ?_
 rotate_left
 ·show Act.put _ (some 113) _ = _
  simp only [Act.put, List.setIfInBounds_toArray, List.set_cons_zero, List.set_cons_succ, i64_w, i32_w]
  rfl
 refine pure_ (i := 27) (N := some 115) (v := .bool false) (a' := ?_) #[true, true, true, true, true, true, true, true, true, true, true, true, true, true, true, true, true, true, true, true, true, true, true, true, true, true, true, true, false, false, false, false, false, false, false, false, false, false, false] rfl rfl (any_of HT_.out (by kernel_rfl)) (fun _ _ _ h => h) (Or.inl ⟨by rfl, ?_⟩) ?_ ?_
 ·intro w'
  go_simp
  try simp
 rotate_left
 ·simp only [Act.put, List.setIfInBounds_toArray, List.set_cons_zero, List.set_cons_succ, i64_w, i32_w]
  rfl
 refine pure_ (i := 28) (N := some 116) (v := ?_) (a' := ?_) #[true, true, true, true, true, true, true, true, true, true, true, true, true, true, true, true, true, true, true, true, true, true, true, true, true, true, true, true, true, false, false, false, false, false, false, false, false, false, false] rfl rfl (any_of HT_.out (by kernel_rfl)) (fun _ _ _ h => h) (Or.inl ⟨by rfl, ?_⟩) ?_ ?_
 rotate_left
 ·intro w'
  go_simp
  with_reducible rfl
 rotate_left
 ·simp only [Act.put, List.setIfInBounds_toArray, List.set_cons_zero, List.set_cons_succ, i64_w, i32_w]
  rfl
 refine pure_ (i := 29) (N := some 117) (v := ?_) (a' := ?_) #[true, true, true, true, true, true, true, true, true, true, true, true, true, true, true, true, true, true, true, true, true, true, true, true, true, true, true, true, true, true, false, false, false, false, false, false, false, false, false] rfl rfl (any_of HT_.out (by kernel_rfl)) (fun _ _ _ h => h) (Or.inl ⟨by rfl, ?_⟩) ?_ ?_
 rotate_left
 ·intro w'
  go_simp
  with_reducible rfl
 rotate_left
 ·simp only [Act.put, List.setIfInBounds_toArray, List.set_cons_zero, List.set_cons_succ, i64_w, i32_w]
  rfl
 refine pure_ (i := 30) (N := some 118) (v := ?_) (a' := ?_) #[true, true, true, true, true, true, true, true, true, true, true, true, true, true, true, true, true, true, true, true, true, true, true, true, true, true, true, true, true, true, true, false, false, false, false, false, false, false, false] rfl rfl (any_of HT_.out (by kernel_rfl)) (fun _ _ _ h => h) (Or.inl ⟨by rfl, ?_⟩) ?_ ?_
 rotate_left
 ·intro w'
  go_simp
  with_reducible rfl
 rotate_left
 ·simp only [Act.put, List.setIfInBounds_toArray, List.set_cons_zero, List.set_cons_succ, i64_w, i32_w]
  rfl
 refine pure_ (i := 32) (N := some 120) (v := ?_) (a' := ?_) #[true, true, true, true, true, true, true, true, true, true, true, true, true, true, true, true, true, true, true, true, true, true, true, true, true, true, true, true, true, true, true, false, true, false, false, false, false, false, false] rfl rfl (any_of HT_.out (by kernel_rfl)) (fun _ _ _ h => h) (Or.inl ⟨by rfl, ?_⟩) ?_ ?_
 rotate_left
 ·intro w'
  go_simp
  with_reducible rfl
 rotate_left
 ·simp only [Act.put, List.setIfInBounds_toArray, List.set_cons_zero, List.set_cons_succ, i64_w, i32_w]
  rfl
 refine one_ (i := 31) (N := some 119) #[true, true, true, true, true, true, true, true, true, true, true, true, true, true, true, true, true, true, true, true, true, true, true, true, true, true, true, true, true, true, true, true, true, false, false, false, false, false, false] rfl rfl (one_of HT_.out (by kernel_rfl)) (by decide) (fun K hK => ?_)
 refine goes_ Tryd.func17 (by kernel_rfl) rfl #[errI (errV a0) qy] (by rfl) rfl rfl (by (try simp only [List.map_toArray, List.map_cons, List.map_nil]); first | done | rfl) ?_
 refine (errI_num qy QY1.out (HS.out.step HZ.out.below)).mono ?_
 rintro e wm ⟨rfl, hb⟩
 refine ⟨_, rfl, ?_⟩
 skip
 replace HZ := Aside0.mk (HZ.out.step hb)
 obtain ⟨wn, rfl⟩ : ∃ wn, wn = wm := ⟨_, rfl⟩
 refine hK.out _ _ (zx HZ.out) (fun hHeld => ?_)
 clear hK K hb
 refine norm_ (a' := ?_) ?_ ?_
 rotate_left
 ·show Act.put _ (some 119) _ = _
  simp only [Act.put, List.setIfInBounds_toArray, List.set_cons_zero, List.set_cons_succ, i64_w, i32_w]
  rfl
 refine pure_ (i := 33) (N := some 121) (v := .bool false) (a' := ?_) #[true, true, true, true, true, true, true, true, true, true, true, true, true, true, true, true, true, true, true, true, true, true, true, true, true, true, true, true, true, true, true, true, true, true, false, false, false, false, false] rfl rfl (any_of HT_.out (by kernel_rfl)) (fun _ _ _ h => h) (Or.inl ⟨by rfl, ?_⟩) ?_ ?_
 ·intro w'
  go_simp
  try simp
 rotate_left
 ·simp only [Act.put, List.setIfInBounds_toArray, List.set_cons_zero, List.set_cons_succ, i64_w, i32_w]
  rfl
 refine pure_ (i := 34) (N := some 122) (v := ?_) (a' := ?_) #[true, true, true, true, true, true, true, true, true, true, true, true, true, true, true, true, true, true, true, true, true, true, true, true, true, true, true, true, true, true, true, true, true, true, true, false, false, false, false] rfl rfl (any_of HT_.out (by kernel_rfl)) (fun _ _ _ h => h) (Or.inl ⟨by rfl, ?_⟩) ?_ ?_
 rotate_left
 ·intro w'
  go_simp
  with_reducible rfl
 rotate_left
 ·simp only [Act.put, List.setIfInBounds_toArray, List.set_cons_zero, List.set_cons_succ, i64_w, i32_w]
  rfl
 refine pure_ (i := 35) (N := some 123) (v := ?_) (a' := ?_) #[true, true, true, true, true, true, true, true, true, true, true, true, true, true, true, true, true, true, true, true, true, true, true, true, true, true, true, true, true, true, true, true, true, true, true, true, false, false, false] rfl rfl (any_of HT_.out (by kernel_rfl)) (fun _ _ _ h => h) (Or.inl ⟨by rfl, ?_⟩) ?_ ?_
 rotate_left
 ·intro w'
  go_simp
  with_reducible rfl
 rotate_left
 ·simp only [Act.put, List.setIfInBounds_toArray, List.set_cons_zero, List.set_cons_succ, i64_w, i32_w]
  rfl
 refine pure_ (i := 36) (N := some 124) (v := ?_) (a' := ?_) #[true, true, true, true, true, true, true, true, true, true, true, true, true, true, true, true, true, true, true, true, true, true, true, true, true, true, true, true, true, true, true, true, true, true, true, true, true, false, false] rfl rfl (any_of HT_.out (by kernel_rfl)) (fun _ _ _ h => h) (Or.inl ⟨by rfl, ?_⟩) ?_ ?_
 rotate_left
 ·intro w'
  go_simp
  with_reducible rfl
 rotate_left
 ·simp only [Act.put, List.setIfInBounds_toArray, List.set_cons_zero, List.set_cons_succ, i64_w, i32_w]
  rfl
 refine pure_ (i := 37) (N := some 125) (v := ?_) (a' := ?_) #[true, true, true, true, true, true, true, true, true, true, true, true, true, true, true, true, true, true, true, true, true, true, true, true, true, true, true, true, true, true, true, true, true, true, true, true, true, true, false] rfl rfl (any_of HT_.out (by kernel_rfl)) (fun _ _ _ h => h) (Or.inl ⟨by rfl, ?_⟩) ?_ ?_
 rotate_left
 ·intro w'
  go_simp
  with_reducible rfl
 rotate_left
 ·simp only [Act.put, List.setIfInBounds_toArray, List.set_cons_zero, List.set_cons_succ, i64_w, i32_w]
  rfl
 refine pure_ (i := 38) (N := some 126) (v := ?_) (a' := ?_) #[true, true, true, true, true, true, true, true, true, true, true, true, true, true, true, true, true, true, true, true, true, true, true, true, true, true, true, true, true, true, true, true, true, true, true, true, true, true, true] rfl rfl (any_of HT_.out (by kernel_rfl)) (fun _ _ _ h => h) (Or.inl ⟨by rfl, ?_⟩) ?_ ?_
 rotate_left
 ·intro w'
  go_simp
  with_reducible rfl
 rotate_left
 ·simp only [Act.put, List.setIfInBounds_toArray, List.set_cons_zero, List.set_cons_succ, i64_w, i32_w]
  rfl
 refine done_ (done_of HT_.out (by kernel_rfl)) ?_
 clear hHeld
 go_upto_if 129 with fail
 go_cut [130] (fun v130 wc => Aside0 (Z w bp #[.int .i64 s0, .slice A0 N0.length c0, .slice A1 O0.length c1, .int .i64 s1, .slice A2 N1.length c2, .slice A3 O1.length c3, .slice A4 B.length c4, .bool els, .int .i64 sy, .slice A5 wd.length c5] #[.int .i64 s0, .slice B0 N0.length d0, .slice B1 O0.length d1, .int .i64 s1, .slice B2 N1.length d2, .slice B3 O1.length d3, .slice B4 B.length d4, .bool els] W4 q4 (flip wd) (w.heap.size + 1) g1 h0 h1 h2 h3 h4 h5 B0 d0 N0 B1 d1 O0 B2 d2 N1 B3 d3 O1 B4 d4 B wc))
 case first => as_aux_lemma =>
  clear QF QF1 QX1 QY1 EX QX EY QY SZ
  cases wd with
  | nil =>
   go_wp2_with fail
   go_meet
   exact HZ
  | cons x r =>
   obtain ⟨g, rfl, hc1, hc2, hput⟩ := HZ.out.put
   have hn1 : 0 < (x :: r).length := Nat.succ_pos _
   have hn2 : (0 : Int) < ((x :: r).length : Int) := by omega
   have HPut := Aside0.mk hput
   clear hput
   obtain ⟨ln, hlen⟩ : ∃ ln, (x :: r).length = ln := ⟨_, rfl⟩
   rw [hlen] at hn1 hn2 ⊢
   have HLN := Aside0.mk hlen
   clear hlen
   go_wp2_with fail
   refine (caesurakit_Pick.calls x 2 (pk2 x) _ (pk2_eq x)).mono ?_
   rintro e wq ⟨rfl, ⟨⟨n5, rfl⟩⟩⟩
   replace HZ := Aside0.mk (HZ.out.step (pw_below_drewN (Below.refl _ _) n5))
   clear HPut hc1 hc2
   obtain ⟨g', e, hc1, hc2, hput⟩ := HZ.out.put
   injection e with e
   injection e with e
   subst e
   have HPut := Aside0.mk (hput (wrap64 (1 - pk2 x)) (wrap_pk2' x))
   clear hput
   generalize World.drewN _ n5 = wr at HZ HPut hc1 hc2 ⊢
   go_wp2_with fail
   have hln := HLN.out
   subst hln
   go_meet
   exact HPut
 case rest => as_aux_lemma =>
  clear HZ
  have HZ := hcut
  clear hcut
  have x0 : wc.cell? ⟨w.heap.size, 0, none⟩ = some (.int .i64 s0) := (blk_cell HZ.out.hx 0).trans rfl
  have x1 : wc.cell? ⟨w.heap.size, 1, none⟩ = some (.slice A0 N0.length c0) := (blk_cell HZ.out.hx 1).trans rfl
  have x2 : wc.cell? ⟨w.heap.size, 2, none⟩ = some (.slice A1 O0.length c1) := (blk_cell HZ.out.hx 2).trans rfl
  have x3 : wc.cell? ⟨w.heap.size, 3, none⟩ = some (.int .i64 s1) := (blk_cell HZ.out.hx 3).trans rfl
  have x4 : wc.cell? ⟨w.heap.size, 4, none⟩ = some (.slice A2 N1.length c2) := (blk_cell HZ.out.hx 4).trans rfl
  have x5 : wc.cell? ⟨w.heap.size, 5, none⟩ = some (.slice A3 O1.length c3) := (blk_cell HZ.out.hx 5).trans rfl
  have x6 : wc.cell? ⟨w.heap.size, 6, none⟩ = some (.slice A4 B.length c4) := (blk_cell HZ.out.hx 6).trans rfl
  have x7 : wc.cell? ⟨w.heap.size, 7, none⟩ = some (.bool els) := (blk_cell HZ.out.hx 7).trans rfl
  have x8 : wc.cell? ⟨w.heap.size, 8, none⟩ = some (.int .i64 sy) := (blk_cell HZ.out.hx 8).trans rfl
  have x9 : wc.cell? ⟨w.heap.size, 9, none⟩ = some (.slice A5 wd.length c5) := (blk_cell HZ.out.hx 9).trans rfl
  have y0 : wc.cell? ⟨bp, 0, none⟩ = some (.int .i64 s0) := (blk_cell HZ.out.hp 0).trans rfl
  have y1 : wc.cell? ⟨bp, 1, none⟩ = some (.slice B0 N0.length d0) := (blk_cell HZ.out.hp 1).trans rfl
  have y2 : wc.cell? ⟨bp, 2, none⟩ = some (.slice B1 O0.length d1) := (blk_cell HZ.out.hp 2).trans rfl
  have y3 : wc.cell? ⟨bp, 3, none⟩ = some (.int .i64 s1) := (blk_cell HZ.out.hp 3).trans rfl
  have y4 : wc.cell? ⟨bp, 4, none⟩ = some (.slice B2 N1.length d2) := (blk_cell HZ.out.hp 4).trans rfl
  have y5 : wc.cell? ⟨bp, 5, none⟩ = some (.slice B3 O1.length d3) := (blk_cell HZ.out.hp 5).trans rfl
  have y6 : wc.cell? ⟨bp, 6, none⟩ = some (.slice B4 B.length d4) := (blk_cell HZ.out.hp 6).trans rfl
  have y7 : wc.cell? ⟨bp, 7, none⟩ = some (.bool els) := (blk_cell HZ.out.hp 7).trans rfl
  go_wp2_with fail
  have hrd := reads_calls (els := els) (s0 := s0) (s1 := s1) HZ.out.lq.cp (HS.out.step HZ.out.below) HZ.out.word (by rw [flip_length]; exact HL.out) sy
  simp only [flip_length] at hrd
  refine hrd.mono ?_
  clear hrd
  rintro e w30 ⟨rfl, hb⟩
  replace HZ := Aside0.mk (HZ.out.step hb)
  clear hb
  clear x0 x1 x2 x3 x4 x5 x6 x7 x8 x9 y0 y1 y2 y3 y4 y5 y6 y7
  have x0 : w30.cell? ⟨w.heap.size, 0, none⟩ = some (.int .i64 s0) := (blk_cell HZ.out.hx 0).trans rfl
  have x1 : w30.cell? ⟨w.heap.size, 1, none⟩ = some (.slice A0 N0.length c0) := (blk_cell HZ.out.hx 1).trans rfl
  have x2 : w30.cell? ⟨w.heap.size, 2, none⟩ = some (.slice A1 O0.length c1) := (blk_cell HZ.out.hx 2).trans rfl
  have x3 : w30.cell? ⟨w.heap.size, 3, none⟩ = some (.int .i64 s1) := (blk_cell HZ.out.hx 3).trans rfl
  have x4 : w30.cell? ⟨w.heap.size, 4, none⟩ = some (.slice A2 N1.length c2) := (blk_cell HZ.out.hx 4).trans rfl
  have x5 : w30.cell? ⟨w.heap.size, 5, none⟩ = some (.slice A3 O1.length c3) := (blk_cell HZ.out.hx 5).trans rfl
  have x6 : w30.cell? ⟨w.heap.size, 6, none⟩ = some (.slice A4 B.length c4) := (blk_cell HZ.out.hx 6).trans rfl
  have x7 : w30.cell? ⟨w.heap.size, 7, none⟩ = some (.bool els) := (blk_cell HZ.out.hx 7).trans rfl
  have x8 : w30.cell? ⟨w.heap.size, 8, none⟩ = some (.int .i64 sy) := (blk_cell HZ.out.hx 8).trans rfl
  have x9 : w30.cell? ⟨w.heap.size, 9, none⟩ = some (.slice A5 wd.length c5) := (blk_cell HZ.out.hx 9).trans rfl
  have y0 : w30.cell? ⟨bp, 0, none⟩ = some (.int .i64 s0) := (blk_cell HZ.out.hp 0).trans rfl
  have y1 : w30.cell? ⟨bp, 1, none⟩ = some (.slice B0 N0.length d0) := (blk_cell HZ.out.hp 1).trans rfl
  have y2 : w30.cell? ⟨bp, 2, none⟩ = some (.slice B1 O0.length d1) := (blk_cell HZ.out.hp 2).trans rfl
  have y3 : w30.cell? ⟨bp, 3, none⟩ = some (.int .i64 s1) := (blk_cell HZ.out.hp 3).trans rfl
  have y4 : w30.cell? ⟨bp, 4, none⟩ = some (.slice B2 N1.length d2) := (blk_cell HZ.out.hp 4).trans rfl
  have y5 : w30.cell? ⟨bp, 5, none⟩ = some (.slice B3 O1.length d3) := (blk_cell HZ.out.hp 5).trans rfl
  have y6 : w30.cell? ⟨bp, 6, none⟩ = some (.slice B4 B.length d4) := (blk_cell HZ.out.hp 6).trans rfl
  have y7 : w30.cell? ⟨bp, 7, none⟩ = some (.bool els) := (blk_cell HZ.out.hp 7).trans rfl
  go_wp2_with fail
  refine (over_calls (els := els) (s0 := s0) (s1 := s1) HZ.out.lq).mono ?_
  rintro e w31 ⟨rfl, hlq, hb, hk⟩
  replace HZ := Aside0.mk (HZ.out.over hlq hb hk)
  clear hlq hb hk
  clear x0 x1 x2 x3 x4 x5 x6 x7 x8 x9 y0 y1 y2 y3 y4 y5 y6 y7
  have x0 : w31.cell? ⟨w.heap.size, 0, none⟩ = some (.int .i64 s0) := (blk_cell HZ.out.hx 0).trans rfl
  have x1 : w31.cell? ⟨w.heap.size, 1, none⟩ = some (.slice A0 N0.length c0) := (blk_cell HZ.out.hx 1).trans rfl
  have x2 : w31.cell? ⟨w.heap.size, 2, none⟩ = some (.slice A1 O0.length c1) := (blk_cell HZ.out.hx 2).trans rfl
  have x3 : w31.cell? ⟨w.heap.size, 3, none⟩ = some (.int .i64 s1) := (blk_cell HZ.out.hx 3).trans rfl
  have x4 : w31.cell? ⟨w.heap.size, 4, none⟩ = some (.slice A2 N1.length c2) := (blk_cell HZ.out.hx 4).trans rfl
  have x5 : w31.cell? ⟨w.heap.size, 5, none⟩ = some (.slice A3 O1.length c3) := (blk_cell HZ.out.hx 5).trans rfl
  have x6 : w31.cell? ⟨w.heap.size, 6, none⟩ = some (.slice A4 B.length c4) := (blk_cell HZ.out.hx 6).trans rfl
  have x7 : w31.cell? ⟨w.heap.size, 7, none⟩ = some (.bool els) := (blk_cell HZ.out.hx 7).trans rfl
  have x8 : w31.cell? ⟨w.heap.size, 8, none⟩ = some (.int .i64 sy) := (blk_cell HZ.out.hx 8).trans rfl
  have x9 : w31.cell? ⟨w.heap.size, 9, none⟩ = some (.slice A5 wd.length c5) := (blk_cell HZ.out.hx 9).trans rfl
  have y0 : w31.cell? ⟨bp, 0, none⟩ = some (.int .i64 s0) := (blk_cell HZ.out.hp 0).trans rfl
  have y1 : w31.cell? ⟨bp, 1, none⟩ = some (.slice B0 N0.length d0) := (blk_cell HZ.out.hp 1).trans rfl
  have y2 : w31.cell? ⟨bp, 2, none⟩ = some (.slice B1 O0.length d1) := (blk_cell HZ.out.hp 2).trans rfl
  have y3 : w31.cell? ⟨bp, 3, none⟩ = some (.int .i64 s1) := (blk_cell HZ.out.hp 3).trans rfl
  have y4 : w31.cell? ⟨bp, 4, none⟩ = some (.slice B2 N1.length d2) := (blk_cell HZ.out.hp 4).trans rfl
  have y5 : w31.cell? ⟨bp, 5, none⟩ = some (.slice B3 O1.length d3) := (blk_cell HZ.out.hp 5).trans rfl
  have y6 : w31.cell? ⟨bp, 6, none⟩ = some (.slice B4 B.length d4) := (blk_cell HZ.out.hp 6).trans rfl
  have y7 : w31.cell? ⟨bp, 7, none⟩ = some (.bool els) := (blk_cell HZ.out.hp 7).trans rfl
  go_wp2_with fail
  have hrd := reads_calls (els := els) (s0 := s0) (s1 := s1) HZ.out.lq.cp (HS.out.step HZ.out.below) HZ.out.word (by rw [flip_length]; exact HL.out) sy
  simp only [flip_length, set00_length, notB_length] at hrd
  refine hrd.mono ?_
  clear hrd
  rintro e w32 ⟨rfl, hb⟩
  replace HZ := Aside0.mk (HZ.out.step hb)
  clear hb
  clear x0 x1 x2 x3 x4 x5 x6 x7 x8 x9 y0 y1 y2 y3 y4 y5 y6 y7
  have x0 : w32.cell? ⟨w.heap.size, 0, none⟩ = some (.int .i64 s0) := (blk_cell HZ.out.hx 0).trans rfl
  have x1 : w32.cell? ⟨w.heap.size, 1, none⟩ = some (.slice A0 N0.length c0) := (blk_cell HZ.out.hx 1).trans rfl
  have x2 : w32.cell? ⟨w.heap.size, 2, none⟩ = some (.slice A1 O0.length c1) := (blk_cell HZ.out.hx 2).trans rfl
  have x3 : w32.cell? ⟨w.heap.size, 3, none⟩ = some (.int .i64 s1) := (blk_cell HZ.out.hx 3).trans rfl
  have x4 : w32.cell? ⟨w.heap.size, 4, none⟩ = some (.slice A2 N1.length c2) := (blk_cell HZ.out.hx 4).trans rfl
  have x5 : w32.cell? ⟨w.heap.size, 5, none⟩ = some (.slice A3 O1.length c3) := (blk_cell HZ.out.hx 5).trans rfl
  have x6 : w32.cell? ⟨w.heap.size, 6, none⟩ = some (.slice A4 B.length c4) := (blk_cell HZ.out.hx 6).trans rfl
  have x7 : w32.cell? ⟨w.heap.size, 7, none⟩ = some (.bool els) := (blk_cell HZ.out.hx 7).trans rfl
  have x8 : w32.cell? ⟨w.heap.size, 8, none⟩ = some (.int .i64 sy) := (blk_cell HZ.out.hx 8).trans rfl
  have x9 : w32.cell? ⟨w.heap.size, 9, none⟩ = some (.slice A5 wd.length c5) := (blk_cell HZ.out.hx 9).trans rfl
  have y0 : w32.cell? ⟨bp, 0, none⟩ = some (.int .i64 s0) := (blk_cell HZ.out.hp 0).trans rfl
  have y1 : w32.cell? ⟨bp, 1, none⟩ = some (.slice B0 N0.length d0) := (blk_cell HZ.out.hp 1).trans rfl
  have y2 : w32.cell? ⟨bp, 2, none⟩ = some (.slice B1 O0.length d1) := (blk_cell HZ.out.hp 2).trans rfl
  have y3 : w32.cell? ⟨bp, 3, none⟩ = some (.int .i64 s1) := (blk_cell HZ.out.hp 3).trans rfl
  have y4 : w32.cell? ⟨bp, 4, none⟩ = some (.slice B2 N1.length d2) := (blk_cell HZ.out.hp 4).trans rfl
  have y5 : w32.cell? ⟨bp, 5, none⟩ = some (.slice B3 O1.length d3) := (blk_cell HZ.out.hp 5).trans rfl
  have y6 : w32.cell? ⟨bp, 6, none⟩ = some (.slice B4 B.length d4) := (blk_cell HZ.out.hp 6).trans rfl
  have y7 : w32.cell? ⟨bp, 7, none⟩ = some (.bool els) := (blk_cell HZ.out.hp 7).trans rfl
  obtain ⟨bt, hbt⟩ : ∃ b : Bool, b = (decide ((1 : Int) < (N0.length : Int)) && decide ((1 : Int) < (O0.length : Int))) := ⟨_, rfl⟩
  have HBT := Aside0.mk hbt
  clear hbt
  go_upto_region 21 with fail
  go_cut [162] (fun v162 wc => v162 = .bool bt ∧ Aside0 (Z w bp #[.int .i64 s0, .slice A0 N0.length c0, .slice A1 O0.length c1, .int .i64 s1, .slice A2 N1.length c2, .slice A3 O1.length c3, .slice A4 B.length c4, .bool els, .int .i64 sy, .slice A5 wd.length c5] #[.int .i64 s0, .slice B0 N0.length d0, .slice B1 O0.length d1, .int .i64 s1, .slice B2 N1.length d2, .slice B3 O1.length d3, .slice B4 B.length d4, .bool els] W4 q4 (flip wd) (w.heap.size + 1) g1 h0 h1 h2 h3 h4 h5 B0 d0 N0 B1 d1 (set00 0 O0) B2 d2 (set00 0 N1) B3 d3 O1 B4 d4 (notB B) wc))
  case first => as_aux_lemma =>
   by_cases q1 : (1 : Int) < (N0.length : Int)
   ·have i1d : decide ((1 : Int) < (N0.length : Int)) = true := decide_eq_true q1
    by_cases q2 : (1 : Int) < (O0.length : Int)
    ·have i2d : decide ((1 : Int) < (O0.length : Int)) = true := decide_eq_true q2
     go_wp2_with fail
     go_meet
     exact ⟨by rw [HBT.out, i1d, i2d]; rfl, HZ⟩
    ·have i2d : decide ((1 : Int) < (O0.length : Int)) = false := decide_eq_false q2
     go_wp2_with fail
     go_meet
     exact ⟨by rw [HBT.out, i1d, i2d]; rfl, HZ⟩
   ·have i1d : decide ((1 : Int) < (N0.length : Int)) = false := decide_eq_false q1
    go_wp2_with fail
    go_meet
    exact ⟨by rw [HBT.out, i1d]; rfl, HZ⟩
  case rest => as_aux_lemma =>
   clear HZ
   clear x0 x1 x2 x3 x4 x5 x6 x7 x8 x9 y0 y1 y2 y3 y4 y5 y6 y7
   obtain ⟨rfl, HZ⟩ := hcut
   have x0 : wc.cell? ⟨w.heap.size, 0, none⟩ = some (.int .i64 s0) := (blk_cell HZ.out.hx 0).trans rfl
   have x1 : wc.cell? ⟨w.heap.size, 1, none⟩ = some (.slice A0 N0.length c0) := (blk_cell HZ.out.hx 1).trans rfl
   have x2 : wc.cell? ⟨w.heap.size, 2, none⟩ = some (.slice A1 O0.length c1) := (blk_cell HZ.out.hx 2).trans rfl
   have x3 : wc.cell? ⟨w.heap.size, 3, none⟩ = some (.int .i64 s1) := (blk_cell HZ.out.hx 3).trans rfl
   have x4 : wc.cell? ⟨w.heap.size, 4, none⟩ = some (.slice A2 N1.length c2) := (blk_cell HZ.out.hx 4).trans rfl
   have x5 : wc.cell? ⟨w.heap.size, 5, none⟩ = some (.slice A3 O1.length c3) := (blk_cell HZ.out.hx 5).trans rfl
   have x6 : wc.cell? ⟨w.heap.size, 6, none⟩ = some (.slice A4 B.length c4) := (blk_cell HZ.out.hx 6).trans rfl
   have x7 : wc.cell? ⟨w.heap.size, 7, none⟩ = some (.bool els) := (blk_cell HZ.out.hx 7).trans rfl
   have x8 : wc.cell? ⟨w.heap.size, 8, none⟩ = some (.int .i64 sy) := (blk_cell HZ.out.hx 8).trans rfl
   have x9 : wc.cell? ⟨w.heap.size, 9, none⟩ = some (.slice A5 wd.length c5) := (blk_cell HZ.out.hx 9).trans rfl
   have y0 : wc.cell? ⟨bp, 0, none⟩ = some (.int .i64 s0) := (blk_cell HZ.out.hp 0).trans rfl
   have y1 : wc.cell? ⟨bp, 1, none⟩ = some (.slice B0 N0.length d0) := (blk_cell HZ.out.hp 1).trans rfl
   have y2 : wc.cell? ⟨bp, 2, none⟩ = some (.slice B1 O0.length d1) := (blk_cell HZ.out.hp 2).trans rfl
   have y3 : wc.cell? ⟨bp, 3, none⟩ = some (.int .i64 s1) := (blk_cell HZ.out.hp 3).trans rfl
   have y4 : wc.cell? ⟨bp, 4, none⟩ = some (.slice B2 N1.length d2) := (blk_cell HZ.out.hp 4).trans rfl
   have y5 : wc.cell? ⟨bp, 5, none⟩ = some (.slice B3 O1.length d3) := (blk_cell HZ.out.hp 5).trans rfl
   have y6 : wc.cell? ⟨bp, 6, none⟩ = some (.slice B4 B.length d4) := (blk_cell HZ.out.hp 6).trans rfl
   have y7 : wc.cell? ⟨bp, 7, none⟩ = some (.bool els) := (blk_cell HZ.out.hp 7).trans rfl
   go_upto_if 162 with fail
   go_cut [163] (fun v163 wc => ∃ m k : Nat, m ≤ N0.length ∧ k ≤ O0.length ∧ Aside0 (Z w bp #[.int .i64 s0, .slice A0 N0.length c0, .slice A1 O0.length c1, .int .i64 s1, .slice A2 N1.length c2, .slice A3 O1.length c3, .slice A4 B.length c4, .bool els, .int .i64 sy, .slice A5 wd.length c5] #[.int .i64 s0, .slice B0 m d0, .slice B1 k d1, .int .i64 s1, .slice B2 N1.length d2, .slice B3 O1.length d3, .slice B4 B.length d4, .bool els] W4 q4 (flip wd) (w.heap.size + 1) g1 h0 h1 h2 h3 h4 h5 B0 d0 N0 B1 d1 (set00 0 O0) B2 d2 (set00 0 N1) B3 d3 O1 B4 d4 (notB B) wc))
   case first => as_aux_lemma =>
    have y1f := blk_frozen HZ.out.hp 1
    have y2f := blk_frozen HZ.out.hp 2
    cases bt with
    | true =>
     have hq := HBT.out
     simp only [Bool.true_eq, Bool.and_eq_true, decide_eq_true_eq] at hq
     obtain ⟨q1, q2⟩ := hq
     have hw1 : IntKind.i64.wrap ((N0.length : Int) - 1) = ((N0.length - 1 : Nat) : Int) := by rw [i64_w]; unfold wrap64; have := HN.out.1; omega
     have hw2 : IntKind.i64.wrap ((O0.length : Int) - 1) = ((O0.length - 1 : Nat) : Int) := by rw [i64_w]; unfold wrap64; have := HN.out.2.1; omega
     have hs1 := cut_pastL B0 N0.length d0 ((N0.length - 1 : Nat) : Int) (by omega) (by have := HZ.out.lq.cp.n0.2; omega)
     have hs2 := cut_pastL B1 O0.length d1 ((O0.length - 1 : Nat) : Int) (by omega) (by have := HZ.out.lq.cp.o0.2; rw [set00_length] at this; omega)
     rw [Int.toNat_natCast] at hs1 hs2
     go_wp2_with fail
     go_meet
     exact ⟨N0.length - 1, O0.length - 1, by omega, by omega, ⟨(HZ.out.var 1 (.slice B0 (N0.length - 1) d0)).var 2 (.slice B1 (O0.length - 1) d1)⟩⟩
    | false =>
     go_wp2_with fail
     go_meet
     exact ⟨N0.length, O0.length, Nat.le_refl _, Nat.le_refl _, HZ⟩
   case rest => as_aux_lemma =>
    clear HZ HBT
    clear x0 x1 x2 x3 x4 x5 x6 x7 x8 x9 y0 y1 y2 y3 y4 y5 y6 y7
    obtain ⟨m, k, hm, hk, HZ⟩ := hcut
    have x0 : wc.cell? ⟨w.heap.size, 0, none⟩ = some (.int .i64 s0) := (blk_cell HZ.out.hx 0).trans rfl
    have x1 : wc.cell? ⟨w.heap.size, 1, none⟩ = some (.slice A0 N0.length c0) := (blk_cell HZ.out.hx 1).trans rfl
    have x2 : wc.cell? ⟨w.heap.size, 2, none⟩ = some (.slice A1 O0.length c1) := (blk_cell HZ.out.hx 2).trans rfl
    have x3 : wc.cell? ⟨w.heap.size, 3, none⟩ = some (.int .i64 s1) := (blk_cell HZ.out.hx 3).trans rfl
    have x4 : wc.cell? ⟨w.heap.size, 4, none⟩ = some (.slice A2 N1.length c2) := (blk_cell HZ.out.hx 4).trans rfl
    have x5 : wc.cell? ⟨w.heap.size, 5, none⟩ = some (.slice A3 O1.length c3) := (blk_cell HZ.out.hx 5).trans rfl
    have x6 : wc.cell? ⟨w.heap.size, 6, none⟩ = some (.slice A4 B.length c4) := (blk_cell HZ.out.hx 6).trans rfl
    have x7 : wc.cell? ⟨w.heap.size, 7, none⟩ = some (.bool els) := (blk_cell HZ.out.hx 7).trans rfl
    have x8 : wc.cell? ⟨w.heap.size, 8, none⟩ = some (.int .i64 sy) := (blk_cell HZ.out.hx 8).trans rfl
    have x9 : wc.cell? ⟨w.heap.size, 9, none⟩ = some (.slice A5 wd.length c5) := (blk_cell HZ.out.hx 9).trans rfl
    have y0 : wc.cell? ⟨bp, 0, none⟩ = some (.int .i64 s0) := (blk_cell HZ.out.hp 0).trans rfl
    have y1 : wc.cell? ⟨bp, 1, none⟩ = some (.slice B0 m d0) := (blk_cell HZ.out.hp 1).trans rfl
    have y2 : wc.cell? ⟨bp, 2, none⟩ = some (.slice B1 k d1) := (blk_cell HZ.out.hp 2).trans rfl
    have y3 : wc.cell? ⟨bp, 3, none⟩ = some (.int .i64 s1) := (blk_cell HZ.out.hp 3).trans rfl
    have y4 : wc.cell? ⟨bp, 4, none⟩ = some (.slice B2 N1.length d2) := (blk_cell HZ.out.hp 4).trans rfl
    have y5 : wc.cell? ⟨bp, 5, none⟩ = some (.slice B3 O1.length d3) := (blk_cell HZ.out.hp 5).trans rfl
    have y6 : wc.cell? ⟨bp, 6, none⟩ = some (.slice B4 B.length d4) := (blk_cell HZ.out.hp 6).trans rfl
    have y7 : wc.cell? ⟨bp, 7, none⟩ = some (.bool els) := (blk_cell HZ.out.hp 7).trans rfl
    go_wp2_with fail
    have hrd := reads_calls (els := els) (s0 := s0) (s1 := s1) (take_cp HZ.out.lq.cp (m := m) (k := k) hm (by rw [set00_length]; exact hk)) (HS.out.step HZ.out.below) HZ.out.word (by rw [flip_length]; exact HL.out) sy
    rw [show (N0.take m).length = m by rw [List.length_take]; omega, show ((set00 0 O0).take k).length = k by rw [List.length_take, set00_length]; omega] at hrd
    simp only [flip_length, set00_length, notB_length] at hrd
    refine hrd.mono ?_
    clear hrd
    rintro e w40 ⟨rfl, hb⟩
    replace HZ := Aside0.mk (HZ.out.step hb)
    clear hb
    clear x0 x1 x2 x3 x4 x5 x6 x7 x8 x9 y0 y1 y2 y3 y4 y5 y6 y7
    have x0 : w40.cell? ⟨w.heap.size, 0, none⟩ = some (.int .i64 s0) := (blk_cell HZ.out.hx 0).trans rfl
    have x1 : w40.cell? ⟨w.heap.size, 1, none⟩ = some (.slice A0 N0.length c0) := (blk_cell HZ.out.hx 1).trans rfl
    have x2 : w40.cell? ⟨w.heap.size, 2, none⟩ = some (.slice A1 O0.length c1) := (blk_cell HZ.out.hx 2).trans rfl
    have x3 : w40.cell? ⟨w.heap.size, 3, none⟩ = some (.int .i64 s1) := (blk_cell HZ.out.hx 3).trans rfl
    have x4 : w40.cell? ⟨w.heap.size, 4, none⟩ = some (.slice A2 N1.length c2) := (blk_cell HZ.out.hx 4).trans rfl
    have x5 : w40.cell? ⟨w.heap.size, 5, none⟩ = some (.slice A3 O1.length c3) := (blk_cell HZ.out.hx 5).trans rfl
    have x6 : w40.cell? ⟨w.heap.size, 6, none⟩ = some (.slice A4 B.length c4) := (blk_cell HZ.out.hx 6).trans rfl
    have x7 : w40.cell? ⟨w.heap.size, 7, none⟩ = some (.bool els) := (blk_cell HZ.out.hx 7).trans rfl
    have x8 : w40.cell? ⟨w.heap.size, 8, none⟩ = some (.int .i64 sy) := (blk_cell HZ.out.hx 8).trans rfl
    have x9 : w40.cell? ⟨w.heap.size, 9, none⟩ = some (.slice A5 wd.length c5) := (blk_cell HZ.out.hx 9).trans rfl
    have y0 : w40.cell? ⟨bp, 0, none⟩ = some (.int .i64 s0) := (blk_cell HZ.out.hp 0).trans rfl
    have y1 : w40.cell? ⟨bp, 1, none⟩ = some (.slice B0 m d0) := (blk_cell HZ.out.hp 1).trans rfl
    have y2 : w40.cell? ⟨bp, 2, none⟩ = some (.slice B1 k d1) := (blk_cell HZ.out.hp 2).trans rfl
    have y3 : w40.cell? ⟨bp, 3, none⟩ = some (.int .i64 s1) := (blk_cell HZ.out.hp 3).trans rfl
    have y4 : w40.cell? ⟨bp, 4, none⟩ = some (.slice B2 N1.length d2) := (blk_cell HZ.out.hp 4).trans rfl
    have y5 : w40.cell? ⟨bp, 5, none⟩ = some (.slice B3 O1.length d3) := (blk_cell HZ.out.hp 5).trans rfl
    have y6 : w40.cell? ⟨bp, 6, none⟩ = some (.slice B4 B.length d4) := (blk_cell HZ.out.hp 6).trans rfl
    have y7 : w40.cell? ⟨bp, 7, none⟩ = some (.bool els) := (blk_cell HZ.out.hp 7).trans rfl
    obtain ⟨b2, hb2⟩ : ∃ b : Bool, b = (decide (0 < N1.length) && decide (0 < ((set00 0 N1).getD 0 []).length)) := ⟨_, rfl⟩
    have HB2 := Aside0.mk hb2
    clear hb2
    go_upto_region 25 with fail
    go_cut [197] (fun v197 wc => v197 = .bool b2 ∧ Aside0 (Z w bp #[.int .i64 s0, .slice A0 N0.length c0, .slice A1 O0.length c1, .int .i64 s1, .slice A2 N1.length c2, .slice A3 O1.length c3, .slice A4 B.length c4, .bool els, .int .i64 sy, .slice A5 wd.length c5] #[.int .i64 s0, .slice B0 m d0, .slice B1 k d1, .int .i64 s1, .slice B2 N1.length d2, .slice B3 O1.length d3, .slice B4 B.length d4, .bool els] W4 q4 (flip wd) (w.heap.size + 1) g1 h0 h1 h2 h3 h4 h5 B0 d0 N0 B1 d1 (set00 0 O0) B2 d2 (set00 0 N1) B3 d3 O1 B4 d4 (notB B) wc))
    case first => as_aux_lemma =>
     rcases first_row2 HZ.out.lq.p2 with ⟨e0, ez⟩ | ⟨gb, A', c', hA, e0, e1, hcell⟩ | ⟨gb, gg, c', n, hA, e0, en, e1, hcell, _⟩
     ·rw [set00_length] at e0
      have oi : ¬ (0 : Int) < (N1.length : Int) := by omega
      have od : decide ((0 : Int) < (N1.length : Int)) = false := decide_eq_false oi
      have E0 := Aside0.mk e0
      clear e0 ez
      go_wp2_with fail
      go_meet
      exact ⟨by rw [HB2.out, E0.out]; rfl, HZ⟩
     ·rw [set00_length] at e0
      subst hA
      have oi : (0 : Int) < (N1.length : Int) := by omega
      have od : decide ((0 : Int) < (N1.length : Int)) = true := decide_eq_true oi
      have E1 := Aside0.mk e1
      clear e1
      go_wp2_with fail
      go_meet
      exact ⟨by rw [HB2.out, E1.out]; simp, HZ⟩
     ·rw [set00_length] at e0
      subst hA
      have oi : (0 : Int) < (N1.length : Int) := by omega
      have od : decide ((0 : Int) < (N1.length : Int)) = true := decide_eq_true oi
      have ni : (0 : Int) < (n : Int) := by omega
      have nd : decide ((0 : Int) < (n : Int)) = true := decide_eq_true ni
      have E1 := Aside0.mk (And.intro e1 (And.intro e0 en))
      clear e1 e0 en
      go_wp2_with fail
      go_meet
      exact ⟨by rw [HB2.out, E1.out.1]; simp [E1.out.2.1, E1.out.2.2], HZ⟩
    case rest => as_aux_lemma =>
     clear HZ
     clear x0 x1 x2 x3 x4 x5 x6 x7 x8 x9 y0 y1 y2 y3 y4 y5 y6 y7
     obtain ⟨rfl, HZ⟩ := hcut
     have x0 : wc.cell? ⟨w.heap.size, 0, none⟩ = some (.int .i64 s0) := (blk_cell HZ.out.hx 0).trans rfl
     have x1 : wc.cell? ⟨w.heap.size, 1, none⟩ = some (.slice A0 N0.length c0) := (blk_cell HZ.out.hx 1).trans rfl
     have x2 : wc.cell? ⟨w.heap.size, 2, none⟩ = some (.slice A1 O0.length c1) := (blk_cell HZ.out.hx 2).trans rfl
     have x3 : wc.cell? ⟨w.heap.size, 3, none⟩ = some (.int .i64 s1) := (blk_cell HZ.out.hx 3).trans rfl
     have x4 : wc.cell? ⟨w.heap.size, 4, none⟩ = some (.slice A2 N1.length c2) := (blk_cell HZ.out.hx 4).trans rfl
     have x5 : wc.cell? ⟨w.heap.size, 5, none⟩ = some (.slice A3 O1.length c3) := (blk_cell HZ.out.hx 5).trans rfl
     have x6 : wc.cell? ⟨w.heap.size, 6, none⟩ = some (.slice A4 B.length c4) := (blk_cell HZ.out.hx 6).trans rfl
     have x7 : wc.cell? ⟨w.heap.size, 7, none⟩ = some (.bool els) := (blk_cell HZ.out.hx 7).trans rfl
     have x8 : wc.cell? ⟨w.heap.size, 8, none⟩ = some (.int .i64 sy) := (blk_cell HZ.out.hx 8).trans rfl
     have x9 : wc.cell? ⟨w.heap.size, 9, none⟩ = some (.slice A5 wd.length c5) := (blk_cell HZ.out.hx 9).trans rfl
     have y0 : wc.cell? ⟨bp, 0, none⟩ = some (.int .i64 s0) := (blk_cell HZ.out.hp 0).trans rfl
     have y1 : wc.cell? ⟨bp, 1, none⟩ = some (.slice B0 m d0) := (blk_cell HZ.out.hp 1).trans rfl
     have y2 : wc.cell? ⟨bp, 2, none⟩ = some (.slice B1 k d1) := (blk_cell HZ.out.hp 2).trans rfl
     have y3 : wc.cell? ⟨bp, 3, none⟩ = some (.int .i64 s1) := (blk_cell HZ.out.hp 3).trans rfl
     have y4 : wc.cell? ⟨bp, 4, none⟩ = some (.slice B2 N1.length d2) := (blk_cell HZ.out.hp 4).trans rfl
     have y5 : wc.cell? ⟨bp, 5, none⟩ = some (.slice B3 O1.length d3) := (blk_cell HZ.out.hp 5).trans rfl
     have y6 : wc.cell? ⟨bp, 6, none⟩ = some (.slice B4 B.length d4) := (blk_cell HZ.out.hp 6).trans rfl
     have y7 : wc.cell? ⟨bp, 7, none⟩ = some (.bool els) := (blk_cell HZ.out.hp 7).trans rfl
     go_upto_if 197 with fail
     go_cut [198] (fun v198 wc => ∃ X1 : LL, X1.length = N1.length ∧ Aside0 (Z w bp #[.int .i64 s0, .slice A0 N0.length c0, .slice A1 O0.length c1, .int .i64 s1, .slice A2 N1.length c2, .slice A3 O1.length c3, .slice A4 B.length c4, .bool els, .int .i64 sy, .slice A5 wd.length c5] #[.int .i64 s0, .slice B0 m d0, .slice B1 k d1, .int .i64 s1, .slice B2 N1.length d2, .slice B3 O1.length d3, .slice B4 B.length d4, .bool els] W4 q4 (flip wd) (w.heap.size + 1) g1 h0 h1 h2 h3 h4 h5 B0 d0 N0 B1 d1 (set00 0 O0) B2 d2 X1 B3 d3 O1 B4 d4 (notB B) wc))
     case first => as_aux_lemma =>
      cases b2 with
      | true =>
       have hq := HB2.out
       simp only [Bool.true_eq, Bool.and_eq_true, decide_eq_true_eq] at hq
       rcases first_row2 HZ.out.lq.p2 with ⟨e0, ez⟩ | ⟨gb, A', c', hA, e0, e1, hcell⟩ | ⟨gb, gg, c', n, hA, e0, en, e1, hcell, hok, hfr, ⟨xx, hxx⟩, hput⟩
       ·rw [set00_length] at e0
        omega
       ·omega
       ·rw [set00_length] at e0
        subst hA
        have oi : (0 : Int) < (N1.length : Int) := by omega
        have ni : (0 : Int) < (n : Int) := by omega
        go_wp2_with fail
        go_meet
        exact ⟨set00 (-1) (set00 0 N1), by rw [set00_length, set00_length], ⟨HZ.out.put2 hok (.int .i64 (-1)) (hput (-1))⟩⟩
      | false =>
       go_wp2_with fail
       go_meet
       exact ⟨set00 0 N1, set00_length _ _, HZ⟩
     case rest => as_aux_lemma =>
      clear HZ HB2
      clear x0 x1 x2 x3 x4 x5 x6 x7 x8 x9 y0 y1 y2 y3 y4 y5 y6 y7
      obtain ⟨X1, hX1, HZ⟩ := hcut
      have x0 : wc.cell? ⟨w.heap.size, 0, none⟩ = some (.int .i64 s0) := (blk_cell HZ.out.hx 0).trans rfl
      have x1 : wc.cell? ⟨w.heap.size, 1, none⟩ = some (.slice A0 N0.length c0) := (blk_cell HZ.out.hx 1).trans rfl
      have x2 : wc.cell? ⟨w.heap.size, 2, none⟩ = some (.slice A1 O0.length c1) := (blk_cell HZ.out.hx 2).trans rfl
      have x3 : wc.cell? ⟨w.heap.size, 3, none⟩ = some (.int .i64 s1) := (blk_cell HZ.out.hx 3).trans rfl
      have x4 : wc.cell? ⟨w.heap.size, 4, none⟩ = some (.slice A2 N1.length c2) := (blk_cell HZ.out.hx 4).trans rfl
      have x5 : wc.cell? ⟨w.heap.size, 5, none⟩ = some (.slice A3 O1.length c3) := (blk_cell HZ.out.hx 5).trans rfl
      have x6 : wc.cell? ⟨w.heap.size, 6, none⟩ = some (.slice A4 B.length c4) := (blk_cell HZ.out.hx 6).trans rfl
      have x7 : wc.cell? ⟨w.heap.size, 7, none⟩ = some (.bool els) := (blk_cell HZ.out.hx 7).trans rfl
      have x8 : wc.cell? ⟨w.heap.size, 8, none⟩ = some (.int .i64 sy) := (blk_cell HZ.out.hx 8).trans rfl
      have x9 : wc.cell? ⟨w.heap.size, 9, none⟩ = some (.slice A5 wd.length c5) := (blk_cell HZ.out.hx 9).trans rfl
      have y0 : wc.cell? ⟨bp, 0, none⟩ = some (.int .i64 s0) := (blk_cell HZ.out.hp 0).trans rfl
      have y1 : wc.cell? ⟨bp, 1, none⟩ = some (.slice B0 m d0) := (blk_cell HZ.out.hp 1).trans rfl
      have y2 : wc.cell? ⟨bp, 2, none⟩ = some (.slice B1 k d1) := (blk_cell HZ.out.hp 2).trans rfl
      have y3 : wc.cell? ⟨bp, 3, none⟩ = some (.int .i64 s1) := (blk_cell HZ.out.hp 3).trans rfl
      have y4 : wc.cell? ⟨bp, 4, none⟩ = some (.slice B2 N1.length d2) := (blk_cell HZ.out.hp 4).trans rfl
      have y5 : wc.cell? ⟨bp, 5, none⟩ = some (.slice B3 O1.length d3) := (blk_cell HZ.out.hp 5).trans rfl
      have y6 : wc.cell? ⟨bp, 6, none⟩ = some (.slice B4 B.length d4) := (blk_cell HZ.out.hp 6).trans rfl
      have y7 : wc.cell? ⟨bp, 7, none⟩ = some (.bool els) := (blk_cell HZ.out.hp 7).trans rfl
      go_wp2_with fail
      have hrd := reads_calls (els := els) (s0 := s0) (s1 := s1) (take_cp HZ.out.lq.cp (m := m) (k := k) hm (by rw [set00_length]; exact hk)) (HS.out.step HZ.out.below) HZ.out.word (by rw [flip_length]; exact HL.out) sy
      rw [show (N0.take m).length = m by rw [List.length_take]; omega, show ((set00 0 O0).take k).length = k by rw [List.length_take, set00_length]; omega, hX1] at hrd
      simp only [flip_length, set00_length, notB_length] at hrd
      refine hrd.mono ?_
      clear hrd
      rintro e w41 ⟨rfl, hb⟩
      replace HZ := Aside0.mk (HZ.out.step hb)
      clear hb
      go_wp2_with fail
      go_ret
      exact ⟨rfl, HZ.out.below⟩
end Go.Proofs.YtfonajakaimnoaaDoor.C14

namespace Go.Proofs.YtfonajakaimnoaaDoor.Opn
open Go.RowKit Go.Deep Go.Proofs.YtfonajakaimnoaaDoorW.PrintWords
def O {α : Type} (P : Program) (t : TypeId) (d : Kd α) (m : α → Nat) (S Q : α → Prop) (fuel : Nat) : Prop :=
 P.cellsOf t = d.sz ∧ ∀ {H : Type} (enc : TypeId × Value → H) (w : World) (cs : List Value) (x : DataW H × List MemPlace),
  DataW.trod enc P w 0 (fun _ => true) true fuel t cs = some x → ∃ a, d.K w a cs ∧ m a ≤ Rows.uptoBulk x.1 ∧ ((∀ n ∈ x.1.weights P t, n ≤ reachBytes) → S a) ∧ Q a
def OF {α : Type} (P : Program) (fs : List Field) (off : Nat) (d : Kd α) (m : α → Nat) (S Q : α → Prop) (fuel : Nat) : Prop :=
 ∀ {H : Type} (enc : TypeId × Value → H) (w : World) (cs : List Value) (ys : List (DataW H × List MemPlace)), ys.length = fs.length →
  (∀ (i : Nat) (f : Field), fs[i]? = some f → DataW.trod enc P w 0 (fun _ => true) true fuel f.type ((cs.drop f.offset).take (P.cellsOf f.type)) = ys[i]?) →
  ∃ a, d.K w a ((cs.drop off).take d.sz) ∧ m a ≤ Rows.uptoBulkAll (ys.map (·.1)) ∧ ((∀ n ∈ DataW.weightsEach P (fs.map (·.type)) (ys.map (·.1)), n ≤ reachBytes) → S a) ∧ Q a
variable {P : Program}
theorem O.int {t : TypeId} {k : IntKind} (ht : P.underlying t = some (.int k)) (hc : P.cellsOf t = 1) (fuel : Nat) :
  O P t (Kd.int k) (fun _ => 1) (fun _ => True) (fun n => (Lit.int k n).wf = true) fuel :=
 ⟨hc, fun enc w cs x h => by
  obtain ⟨n, rfl, rfl, hw⟩ := DataW.trod_int ht h
  exact ⟨n, rfl, by simp [Rows.uptoBulk], fun _ => trivial, hw⟩⟩
theorem O.bool {t : TypeId} (ht : P.underlying t = some .bool) (hc : P.cellsOf t = 1) (fuel : Nat) :
  O P t Kd.bool (fun _ => 1) (fun _ => True) (fun _ => True) fuel :=
 ⟨hc, fun enc w cs x h => by
  obtain ⟨n, rfl, rfl⟩ := DataW.trod_bool ht h
  exact ⟨n, rfl, by simp [Rows.uptoBulk], fun _ => trivial, trivial⟩⟩
def ml {α : Type} (m : α → Nat) : List α → Nat
 | [] => 0
 | x :: r => m x + ml m r
theorem ml_append {α : Type} (m : α → Nat) (l r : List α) : ml m (l ++ r) = ml m l + ml m r := by
 induction l with
 | nil => simp [ml]
 | cons x l ih => simp only [List.cons_append, ml, ih]; omega
theorem bulkAll_append {H : Type} (l r : List (DataW H)) : Rows.uptoBulkAll (l ++ r) = Rows.uptoBulkAll l + Rows.uptoBulkAll r := by
 induction l with
 | nil => simp [Rows.uptoBulkAll]
 | cons x l ih => simp only [List.cons_append, Rows.uptoBulkAll, ih]; omega
theorem weightsAll_mem {H : Type} {e : TypeId} {l : List (DataW H)} {x : DataW H} (hx : x ∈ l) {n : Nat} (hn : n ∈ x.weights P e) : n ∈ DataW.weightsAll P e l := by
 induction l with
 | nil => cases hx
 | cons y l ih =>
  simp only [DataW.weightsAll, List.mem_append]
  rcases List.mem_cons.1 hx with rfl | hx
  ·exact .inl hn
  ·exact .inr (ih hx)
theorem elems_of {α H : Type} {p : Nat → α → Prop} {m : α → Nat} {D : Nat → DataW H} : ∀ n, (∀ i, i < n → ∃ a, p i a ∧ m a ≤ Rows.uptoBulk (D i)) →
  ∃ us : List α, us.length = n ∧ (∀ i a, us[i]? = some a → p i a) ∧ ml m us ≤ Rows.uptoBulkAll ((List.range n).map D) := by
 intro n
 induction n with
 | zero => exact fun _ => ⟨[], rfl, fun i a h => by simp at h, by simp [ml]⟩
 | succ n ih =>
  intro h
  obtain ⟨us, h1, h2, h3⟩ := ih (fun i hi => h i (by omega))
  obtain ⟨a, ha, hm⟩ := h n (by omega)
  refine ⟨us ++ [a], by simp [h1], fun i b hb => ?_, ?_⟩
  ·rcases Nat.lt_or_ge i n with hi | hi
   ·rw [List.getElem?_append_left (by omega)] at hb
    exact h2 i b hb
   ·have hl := (List.getElem?_eq_some_iff.1 hb).1
    simp at hl
    have : i = n := by omega
    subst this
    rw [List.getElem?_append_right (by omega)] at hb
    simp [h1] at hb
    subst hb
    exact ha
  ·rw [List.range_succ, List.map_append, bulkAll_append, ml_append]
   simp only [List.map_cons, List.map_nil, Rows.uptoBulkAll, ml]
   omega
theorem add_add (a : Addr) (x y : Nat) : (a.add x).add y = a.add (x + y) := by
 unfold Addr.add
 by_cases hx : x = 0
 ·simp [hx]
 ·by_cases hy : y = 0
  ·simp [hy]
  ·simp [hx, hy, Nat.add_assoc]
theorem O.slice {α : Type} {t e e' : TypeId} {d : Kd α} {m : α → Nat} {S Q : α → Prop} (ht : P.underlying t = some (.slice e)) (hc : P.cellsOf t = 1) {fuel : Nat} (he : ∀ n, n + 1 = fuel → O P e d m S Q n) :
  O P t (Kd.slice e' d) (fun l => ml m l + 1) (fun l => l.length * P.bytesOf e ≤ reachBytes ∧ ∀ x ∈ l, S x) (fun l => l.length ≤ maxLen ∧ ∀ x ∈ l, Q x) fuel :=
 ⟨hc, fun {H} enc w cs x h => by
  rcases DataW.trod_slice ht h with ⟨rfl, rfl⟩ | ⟨a, len, cap, elems, rest, n, rfl, rfl, rfl, hb, hl, hm, hlen, hel, _, _⟩
  ·exact ⟨[], ⟨none, 0, rfl, Nat.le_refl _, rfl, by simp, fun hn => absurd hn (by simp)⟩, by simp [ml, Rows.uptoBulk], fun _ => ⟨by simp, by simp⟩, by simp [maxLen], by simp⟩
  ·obtain ⟨hsz, ho⟩ := he n rfl
   obtain ⟨us, h1, h2, h3⟩ := elems_of (p := fun i v => (∃ c, c.length = d.sz ∧ d.K w v c ∧ ∀ j u, c[j]? = some u → w.cell? (a.add (i * d.sz + j)) = some u) ∧ ((∀ k ∈ (elems.getD i (.nil, [])).1.weights P e, k ≤ reachBytes) → S v) ∧ Q v)
    (m := m) (D := fun i => (elems.getD i (.nil, [])).1) len (fun i hi => by
     have hi' : i < elems.length := by omega
     have hq := hel i hi
     rw [List.getElem?_eq_getElem hi'] at hq
     obtain ⟨c, hc1, hc2⟩ := Option.bind_eq_some_iff.1 hq
     obtain ⟨_, hcl, hcc⟩ := World.cells?_some hc1
     obtain ⟨v, hK, hv, hS, hQ⟩ := ho enc w c _ hc2
     have eg : elems.getD i (.nil, []) = elems[i] := by simp [List.getD, List.getElem?_eq_getElem hi']
     refine ⟨v, ⟨⟨c, by omega, hK, fun j u hj => ?_⟩, by rw [eg]; exact hS, hQ⟩, by rw [eg]; exact hv⟩
     have hjl := (List.getElem?_eq_some_iff.1 hj).1
     rw [← hj, ← hcc j (by omega), add_add, hsz])
   have emap : (List.range len).map (fun i => (elems.getD i (.nil, [])).1) = elems.map (·.1) := by
    apply List.ext_getElem?
    intro i
    rcases Nat.lt_or_ge i len with hi | hi
    ·simp [hi, List.getD, List.getElem?_eq_getElem (show i < elems.length by omega)]
    ·simp [List.getElem?_eq_none (show elems.length ≤ i by omega), List.getElem?_eq_none (show (List.range len).length ≤ i by simpa using hi)]
   rw [emap] at h3
   refine ⟨us, ⟨some a, cap, by simp only [h1], by omega, h1 ▸ rfl, ?_, fun _ => ⟨a, rfl, fun j p hj => (h2 j p hj).1⟩⟩, ?_, fun hw => ⟨?_, fun v hv => ?_⟩, ?_, fun v hv => ?_⟩
   ·simp only [maxLen] at hm; omega
   ·simp only [Rows.uptoBulk]; omega
   ·have := hw ((elems.length + rest.length) * P.bytesOf e) (by simp [DataW.weights, ht])
    exact Nat.le_trans (Nat.mul_le_mul_right _ (by omega)) this
   ·obtain ⟨i, hi⟩ := List.getElem?_of_mem hv
    have hil := (List.getElem?_eq_some_iff.1 hi).1
    have hi' : i < elems.length := by omega
    refine (h2 i v hi).2.1 (fun k hk => hw k ?_)
    have eg : elems.getD i (.nil, []) = elems[i] := by simp [List.getD, List.getElem?_eq_getElem hi']
    rw [eg] at hk
    simp only [DataW.weights, ht, List.mem_cons, List.mem_append]
    exact .inr (.inl (weightsAll_mem (List.mem_map.2 ⟨_, List.getElem_mem hi', rfl⟩) hk))
   ·omega
   ·obtain ⟨i, hi⟩ := List.getElem?_of_mem hv
    exact (h2 i v hi).2.2⟩
theorem OF.one {α : Type} {f : Field} {off : Nat} {d : Kd α} {m : α → Nat} {S Q : α → Prop} {fuel : Nat} (h : O P f.type d m S Q fuel) (ho : f.offset = off) : OF P [f] off d m S Q fuel := by
 intro H enc w cs ys hl hf
 match ys, hl with
 | [y], _ =>
  have := hf 0 f rfl
  simp only [List.getElem?_cons_zero] at this
  obtain ⟨a, hK, hm, hS, hQ⟩ := h.2 enc w _ _ this
  rw [h.1, ho] at hK
  exact ⟨a, hK, by simpa [Rows.uptoBulkAll] using hm, fun hw => hS (fun n hn => hw n (by simp [DataW.weightsEach, hn])), hQ⟩
theorem OF.cons {α β : Type} {f : Field} {fs : List Field} {off : Nat} {d : Kd α} {m : α → Nat} {S Q : α → Prop} {d' : Kd β} {m' : β → Nat} {S' Q' : β → Prop} {fuel : Nat}
  (h : O P f.type d m S Q fuel) (ho : f.offset = off) (hr : OF P fs (off + d.sz) d' m' S' Q' fuel) :
  OF P (f :: fs) off (Kd.pair d d') (fun x => m x.1 + m' x.2) (fun x => S x.1 ∧ S' x.2) (fun x => Q x.1 ∧ Q' x.2) fuel := by
 intro H enc w cs ys hl hf
 match ys, hl with
 | y :: ys, hl =>
  have h0 := hf 0 f rfl
  simp only [List.getElem?_cons_zero] at h0
  obtain ⟨a, hK, hm, hS, hQ⟩ := h.2 enc w _ _ h0
  obtain ⟨b, hK', hm', hS', hQ'⟩ := hr enc w cs ys (by simpa using hl) (fun i g hg => by have := hf (i + 1) g (by simpa using hg); simpa using this)
  rw [h.1, ho] at hK
  refine ⟨(a, b), ⟨_, _, ?_, hK, hK'⟩, by simp only [List.map_cons, Rows.uptoBulkAll]; omega, fun hw => ⟨hS (fun n hn => hw n (by simp [DataW.weightsEach, hn])), hS' (fun n hn => hw n ?_)⟩, hQ, hQ'⟩
  ·show List.take (d.sz + d'.sz) _ = _
   rw [List.take_add, List.drop_drop]
  ·simp only [List.map_cons, DataW.weightsEach, List.mem_append]
   exact .inr hn
theorem O.struct {α β : Type} {t : TypeId} {fs : Array Field} {d : Kd α} {m : α → Nat} {S Q : α → Prop} {f : β → α} (g : α → β) (hg : ∀ a, f (g a) = a) (ht : P.underlying t = some (.struct fs)) (hc : P.cellsOf t = d.sz) {fuel : Nat}
  (h : ∀ n, n + 1 = fuel → OF P fs.toList 0 d m S Q n) : O P t (Kd.iso d f) (fun x => m (f x) + 1) (fun x => S (f x)) (fun x => Q (f x)) fuel :=
 ⟨hc, fun enc w cs x hx => by
  obtain ⟨xs, n, hn, rfl, hl, hlen, hf⟩ := DataW.trod_struct ht hx
  obtain ⟨a, hK, hm, hS, hQ⟩ := h n hn.symm enc w cs xs (by simpa using hlen) (fun i fl hi => hf i fl (by simpa using hi))
  rw [List.drop_zero, ← hc, ← hl, List.take_length] at hK
  refine ⟨g a, ?_, ?_, fun hw => ?_, ?_⟩
  ·show d.K w (f (g a)) cs
   rw [hg]; exact hK
  ·simp only [hg, Rows.uptoBulk]; omega
  ·show S (f (g a))
   rw [hg]
   exact hS (fun k hk => hw k (by simp only [DataW.weights, ht]; exact hk))
  ·show Q (f (g a))
   rw [hg]; exact hQ⟩
end Go.Proofs.YtfonajakaimnoaaDoor.Opn

namespace Go.Proofs.YtfonajakaimnoaaDoor.pairReads
open Go.ChangeShapes Go.WideShapes Go.ChangeAt Go.RowKit
open Go.Proofs.YtfonajakaimnoaaDoorW.PrintWords Opn C11 C14
set_option linter.unusedVariables false
set_option linter.unusedSimpArgs false
set_option maxRecDepth 100000
theorem own : ownKnob Tryd.prog.godebug = none := by kernel_rfl
theorem laidOut : laidOutB Tryd.prog = true := by kernel_rfl
theorem errors_laid {W : World} (h : laidMetH Tryd.prog Rows.pairReadsRow.laid W) : ∃ a0 a1 a2, Sen a0 a1 a2 W := by
 have h' : laidMet Tryd.prog Rows.pairReadsRow.laid W := h
 exact sen_of_laid rfl rfl rfl h'
theorem bytes25 : Tryd.prog.bytesOf 25 = 24 := by kernel_rfl
theorem bytes3 : Tryd.prog.bytesOf 3 = 8 := by kernel_rfl
theorem bytes4 : Tryd.prog.bytesOf 4 = 1 := by kernel_rfl
theorem opened {H : Type} {enc : TypeId × Value → H} {W : World} {fuel : Nat} {cs : Array Value} {x : DataW H × List MemPlace} (h : DataW.trod enc Tryd.prog W 0 (fun _ => true) true fuel 62 cs.toList = some x) (hw : ∀ n ∈ x.1.weights Tryd.prog 62, n ≤ reachBytes) :
  ∃ (s0 : Int) (A0 : Option Addr) (c0 : Nat) (N0 : LL) (A1 : Option Addr) (c1 : Nat) (O0 : LL) (s1 : Int) (A2 : Option Addr) (c2 : Nat) (N1 : LL) (A3 : Option Addr) (c3 : Nat) (O1 : LL) (A4 : Option Addr) (c4 : Nat) (B : List Bool) (els : Bool) (sy : Int) (A5 : Option Addr) (c5 : Nat) (word : List Int),
   cs = #[.int .i64 s0, .slice A0 N0.length c0, .slice A1 O0.length c1, .int .i64 s1, .slice A2 N1.length c2, .slice A3 O1.length c3, .slice A4 B.length c4, .bool els, .int .i64 sy, .slice A5 word.length c5] ∧
   Cp A0 c0 N0 A1 c1 O0 A2 c2 N1 A3 c3 O1 A4 c4 B W ∧ (Kd.C kI W A5 word.length word ∧ word.length ≤ c5) ∧ word.length ≤ 17592186043904 ∧
   (N0.length ≤ 5864062014634 ∧ O0.length ≤ 5864062014634 ∧ N1.length ≤ 5864062014634 ∧ O1.length ≤ 5864062014634 ∧ B.length ≤ 140737488351232) ∧
   ((∀ l ∈ N0, l.length ≤ 17592186043904) ∧ (∀ l ∈ O0, l.length ≤ 17592186043904) ∧ (∀ l ∈ N1, l.length ≤ 17592186043904) ∧ (∀ l ∈ O1, l.length ≤ 17592186043904)) := by
 have o25 := fun n : Nat => O.slice (P := Tryd.prog) (e' := 3) (fuel := n) Tryd.underlying25 (by kernel_rfl) (fun n _ => O.int Tryd.underlying3 (by kernel_rfl) n)
 have o22 := fun n : Nat => O.slice (P := Tryd.prog) (e' := 3) (fuel := n) Tryd.underlying22 (by kernel_rfl) (fun n _ => o25 n)
 have ob := fun n : Nat => O.slice (P := Tryd.prog) (e' := 4) (fuel := n) Tryd.underlying58 (by kernel_rfl) (fun n _ => O.bool Tryd.underlying4 (by kernel_rfl) n)
 have oM := fun n : Nat => O.struct (P := Tryd.prog) (t := 24) (f := id) id (fun _ => rfl) Tryd.underlying24 (by kernel_rfl) (fuel := n)
  (fun n _ => OF.cons (O.int Tryd.underlying3 (by kernel_rfl) n) rfl (OF.cons (o22 n) rfl (OF.one (o22 n) rfl)))
 have oP := fun n : Nat => O.struct (P := Tryd.prog) (t := 60) (f := id) id (fun _ => rfl) Tryd.underlying60 (by kernel_rfl) (fuel := n)
  (fun n _ => OF.cons (oM n) rfl (OF.cons (oM n) rfl (OF.cons (ob n) rfl (OF.one (O.bool Tryd.underlying4 (by kernel_rfl) n) rfl))))
 have oR := fun n : Nat => O.struct (P := Tryd.prog) (t := 62) (f := id) id (fun _ => rfl) Tryd.underlying62 (by kernel_rfl) (fuel := n)
  (fun n _ => OF.cons (oP n) rfl (OF.cons (O.int Tryd.underlying3 (by kernel_rfl) n) rfl (OF.one (o25 n) rfl)))
 obtain ⟨⟨⟨⟨s0, N0, O0⟩, ⟨s1, N1, O1⟩, B, els⟩, sy, word⟩, hK, _, hS, _⟩ := (oR fuel).2 enc W _ _ h
 obtain ⟨_, _, e, ⟨_, _, rfl, ⟨_, _, rfl, rfl, _, _, rfl, ⟨A0, c0, rfl, h0, k0⟩, A1, c1, rfl, h1, k1⟩, _, _, rfl, ⟨_, _, rfl, rfl, _, _, rfl, ⟨A2, c2, rfl, h2, k2⟩, A3, c3, rfl, h3, k3⟩, _, _, rfl, ⟨A4, c4, rfl, h4, k4⟩, rfl⟩, _, _, rfl, rfl, A5, c5, rfl, h5, k5⟩ := hK
 have hS' := hS hw
 obtain ⟨⟨⟨_, ⟨a0, r0⟩, a1, r1⟩, ⟨_, ⟨a2, r2⟩, a3, r3⟩, ⟨a4, _⟩, _⟩, _, a5, _⟩ := hS'
 simp only [bytes25, bytes3, bytes4, reachBytes] at a0 r0 a1 r1 a2 r2 a3 r3 a4 a5
 have t0 : N0.length * 24 ≤ 140737488351232 := a0
 have t1 : O0.length * 24 ≤ 140737488351232 := a1
 have t2 : N1.length * 24 ≤ 140737488351232 := a2
 have t3 : O1.length * 24 ≤ 140737488351232 := a3
 have t4 : B.length * 1 ≤ 140737488351232 := a4
 have t5 : word.length * 8 ≤ 140737488351232 := a5
 clear a0 a1 a2 a3 a4 a5
 exact ⟨s0, A0, c0, N0, A1, c1, O0, s1, A2, c2, N1, A3, c3, O1, A4, c4, B, els, sy, A5, c5, word, by apply Array.toList_inj.1; simpa using e, ⟨⟨k0, h0⟩, ⟨k1, h1⟩, ⟨k2, h2⟩, ⟨k3, h3⟩, ⟨k4, h4⟩⟩, ⟨k5, h5⟩, by omega, ⟨by omega, by omega, by omega, by omega, by omega⟩,
  ⟨fun l hl => by have t5 : l.length * 8 ≤ 140737488351232 := (r0 l hl).1; omega, fun l hl => by have t5 : l.length * 8 ≤ 140737488351232 := (r1 l hl).1; omega, fun l hl => by have t5 : l.length * 8 ≤ 140737488351232 := (r2 l hl).1; omega, fun l hl => by have t5 : l.length * 8 ≤ 140737488351232 := (r3 l hl).1; omega⟩⟩
theorem contract (H : Type) (enc : TypeId × Value → H) (W : World) (base : Nat) (args : Array Value) (ds gs : List (DataW H)) (before : List MemPlace)
  (hval : ∀ (j : Nat) t v, Tryd.f6.params[j]? = some t → args[j]? = some v → Value.okWide Tryd.prog W .any base t v)
  (hW : DataW.Whole enc Tryd.prog Tryd.f6.params.toList Rows.pairReadsSpec.vars false W args.toList ds gs before) (hL : laidMetH Tryd.prog Rows.pairReadsRow.laid W) (hsz : (DataW.weightsEach Tryd.prog (Tryd.f6.params.toList ++ (OpenSpec.ofChange Rows.pairReadsSpec).bare.plain.varTypes Tryd.prog) (ds ++ gs)).all (· ≤ reachBytes) = true) :
  Calls Tryd.prog 6 args W fun e W' => ∃ v, e = .returned v ∧ Rows.pairReadsSpec.post enc Tryd.prog Tryd.f6 false true false false W args v W' := by
 have hW' := hW
 obtain ⟨p, q, hA0, hV, rfl, hfz, hnd⟩ := hW
 have hA : DataW.TrodAll enc Tryd.prog W 0 (fun _ => true) true Tryd.f6.params.toList args.toList ds p := hA0
 rw [Tryd.params6] at hA hval
 obtain ⟨v0, vs0, d0, ds0, p0, q0, hargs, rfl, rfl, h0, r0⟩ := trodAll_cons hA
 obtain ⟨rfl, rfl, rfl⟩ := trodAll_nil r0
 obtain rfl : args = #[v0] := by cases args; simp_all
 obtain ⟨rfl, rfl⟩ := trodVars_none hV
 obtain ⟨cs, rfl, _⟩ := okWide_struct Tryd.underlying62 (hval 0 62 v0 rfl rfl)
 have k0 := h0
 have lt0 : ∀ x ∈ p0, x.block < W.heap.size := by obtain ⟨m, hm⟩ := k0; exact DataW.trod_lt m _ _ _ hm
 obtain ⟨fuel, hf⟩ := h0
 have hwt : ∀ n ∈ d0.weights Tryd.prog 62, n ≤ reachBytes := fun n hn => by
  have h1 := List.all_eq_true.1 hsz n (by
   rw [Tryd.params6]
   simp only [List.cons_append, DataW.weightsEach, List.mem_append]
   exact .inl hn)
  simpa using h1
 obtain ⟨s0, A0, c0, N0, A1, c1, O0, s1, A2, c2, N1, A3, c3, O1, A4, c4, B, els, sy, A5, c5, word, rfl, hcp, hwd, hwl, hlb, hrb⟩ := opened (cs := cs) hf hwt
 obtain ⟨a0, a1, a2, hSen⟩ := errors_laid hL
 clear hA0
 refine (pairReads_calls hcp hSen hwd hwl sy hlb hrb).mono fun e W' ⟨he, bel⟩ => ?_
 subst he
 exact ⟨_, rfl, _, _, _, [], _, [], hW', trodAll_mk1 (shut_bool Tryd.underlying4 _), (trodAll_cons_mk (Below.trod laidOut (by kernel_rfl) (of_decide_eq_true (by kernel_rfl)) k0 bel lt0) trodAll_mk0), rfl, bel.frame _, fun h => by cases h⟩
noncomputable def low : Nat := (World.holding Tryd.prog default ⟨#[], #[], []⟩).heap.size
noncomputable def laidWorld (os : Os) : World :=
 let w0 := World.holding Tryd.prog os ⟨#[.cells #[.string ⟨#[97, 32, 110, 117, 109, 98, 101, 114, 32, 111, 114, 32, 97, 110, 32, 97, 114, 103, 117, 109, 101, 110, 116, 32, 105, 115, 32, 111, 117, 116, 32, 111, 102, 32, 105, 116, 115, 32, 112, 108, 97, 99, 101]⟩] 177, .cells #[.string ⟨#[97, 32, 116, 101, 120, 116, 32, 111, 114, 32, 98, 121, 116, 101, 115, 32, 116, 104, 97, 116, 32, 99, 97, 110, 110, 111, 116, 32, 98, 101, 32, 114, 101, 97, 100]⟩] 177, .cells #[.string ⟨#[97, 98, 111, 118, 101, 32, 97, 32, 108, 105, 109, 105, 116]⟩] 177, .cells #[.string ⟨#[115, 111, 109, 101, 116, 104, 105, 110, 103, 32, 105, 115, 32, 109, 105, 115, 115, 105, 110, 103]⟩] 177, .cells #[.string ⟨#[116, 104, 101, 114, 101, 32, 116, 119, 105, 99, 101]⟩] 177, .cells #[.string ⟨#[110, 111, 116, 32, 105, 110, 32, 111, 114, 100, 101, 114]⟩] 177, .cells #[.string ⟨#[110, 111, 116, 32, 116, 104, 101, 114, 101]⟩] 177, .cells #[.string ⟨#[103, 111, 101, 115, 32, 114, 111, 117, 110, 100, 32, 105, 110, 32, 97, 32, 99, 105, 114, 99, 108, 101]⟩] 177, .cells #[.string ⟨#[116, 104, 101, 32, 115, 117, 109, 32, 100, 111, 101, 115, 32, 110, 111, 116, 32, 102, 105, 116]⟩] 177, .cells #[.string ⟨#[110, 111, 116, 32, 116, 104, 101, 32, 111, 110, 101, 32, 102, 111, 114, 109, 32, 116, 104, 97, 116, 32, 105, 115, 32, 119, 114, 105, 116, 116, 101, 110]⟩] 177, .cells #[.string ⟨#[105, 116, 32, 104, 97, 115, 32, 101, 110, 100, 101, 100]⟩] 177], #[], []⟩
 { w0 with heap := (((((((((((w0.heap.modify 0 (fun | .cells _ t frozen => .cells #[.iface 162 (.pointer (some ⟨low + 0, 0, none⟩))] t frozen | o => o)).modify 1 (fun | .cells _ t frozen => .cells #[.iface 162 (.pointer (some ⟨low + 1, 0, none⟩))] t frozen | o => o)).modify 2 (fun | .cells _ t frozen => .cells #[.iface 162 (.pointer (some ⟨low + 2, 0, none⟩))] t frozen | o => o)).modify 3 (fun | .cells _ t frozen => .cells #[.iface 162 (.pointer (some ⟨low + 3, 0, none⟩))] t frozen | o => o)).modify 4 (fun | .cells _ t frozen => .cells #[.iface 162 (.pointer (some ⟨low + 4, 0, none⟩))] t frozen | o => o)).modify 5 (fun | .cells _ t frozen => .cells #[.iface 162 (.pointer (some ⟨low + 5, 0, none⟩))] t frozen | o => o)).modify 6 (fun | .cells _ t frozen => .cells #[.iface 162 (.pointer (some ⟨low + 6, 0, none⟩))] t frozen | o => o)).modify 7 (fun | .cells _ t frozen => .cells #[.iface 162 (.pointer (some ⟨low + 7, 0, none⟩))] t frozen | o => o)).modify 8 (fun | .cells _ t frozen => .cells #[.iface 162 (.pointer (some ⟨low + 8, 0, none⟩))] t frozen | o => o)).modify 9 (fun | .cells _ t frozen => .cells #[.iface 162 (.pointer (some ⟨low + 9, 0, none⟩))] t frozen | o => o)).modify 10 (fun | .cells _ t frozen => .cells #[.iface 162 (.pointer (some ⟨low + 10, 0, none⟩))] t frozen | o => o)) }
abbrev wit : Array Value := #[.agg #[.int .i64 0, .slice none 0 0, .slice none 0 0, .int .i64 0, .slice none 0 0, .slice none 0 0, .slice none 0 0, .bool false, .int .i64 0, .slice none 0 0]]
theorem laid_met (os : Os) : laidMet Tryd.prog Rows.pairReadsRow.laid ((laidWorld os).forCall (fun _ _ => 0) ⟨#[], wit, []⟩).memory :=
 laidMet_of_run' 8 (by kernel_rfl) (by kernel_rfl)
set_option maxRecDepth 100000 in
theorem lifted (os : Os) (started : os.Started) (H : Type) (enc : TypeId × Value → H) (F : Stop.Interp) :
  ReturnsInHanded {} Tryd.checked os 6 .any ((OpenSpec.ofChange Rows.pairReadsSpec).preRow enc Tryd.prog Tryd.f6 Rows.pairReadsRow.domain false Rows.pairReadsRow.laid) (((OpenSpec.ofChange Rows.pairReadsSpec).at F).post enc Tryd.prog Tryd.f6 false true false false) := by
 obtain ⟨⟨ds0, gs0, places⟩, hx⟩ := Option.isSome_iff_exists.1 (show (DataW.whole enc Tryd.prog ((laidWorld os).forCall (fun _ _ => 0) ⟨#[], wit, []⟩).memory Tryd.f6.params.toList Rows.pairReadsSpec.vars false wit.toList 8).isSome = true by kernel_rfl)
 refine returnsInHanded_of_row (C := Tryd.checked) (s := OpenSpec.ofChange Rows.pairReadsSpec) own started (by kernel_rfl) Tryd.func6
  (witness_row_at (enc := enc) (C := Tryd.checked) false (laidWorld os) wit rfl (by kernel_rfl) (by kernel_rfl) (by kernel_rfl)
   (OpenSpec.preRow_of_cond 8 hx (by kernel_rfl) (fun k hk => by cases hk) (by kernel_rfl) (laid_met os))) ?_
 intro W base args ds gs before hval hW _ _ hsz hL _ _
 exact contract H enc W base args ds gs before hval hW hL hsz
theorem said : Rows.PairReadsSaid :=
 OpenClaim.holds_of_cond 6 Tryd.f6 rfl rfl rfl rfl rfl rfl rfl ⟨rfl, rfl, rfl, rfl, rfl⟩ rfl rfl rfl rfl rfl (by kernel_rfl) Tryd.func6 (by kernel_rfl)
  (of_decide_eq_true (by kernel_rfl)) (by unfold Func.isWrapper; first | (rw [if_pos (by decide +kernel)]; kernel_rfl) | (rw [if_neg (by decide +kernel)]; exact ⟨rfl, rfl⟩))
  (fun os started H enc _ F => by rw [OpenClaim.pre_eq_preRow]; exact lifted os started H enc F)
theorem plain (f : FuncId) (fn : Func) (hf : Tryd.pinned.checked.prog.funcNamed "caesura/caesuralaw14.PairReads" = some f) (hfn : Tryd.pinned.checked.prog.funcs[f]? = some fn) :
  true = Tryd.pinned.checked.prog.looks [] ∧ ∀ (j : Nat) t, fn.params[j]? = some t → Tryd.pinned.checked.prog.wantsStandIn t = false := by
 obtain rfl : f = 6 := Option.some.inj ((show Tryd.prog.funcNamed "caesura/caesuralaw14.PairReads" = some 6 by kernel_rfl).symm.trans hf) |>.symm
 obtain rfl : fn = Tryd.f6 := (Option.some.inj (Tryd.func6.symm.trans hfn)).symm
 refine ⟨by kernel_rfl, fun j t ht => ?_⟩
 rw [Tryd.params6] at ht
 obtain rfl : t = 62 := by simpa using Array.mem_of_getElem? ht
 exact (show Tryd.prog.wantsStandIn 62 = false by kernel_rfl)
theorem card : Rows.PairReadsCardSaid :=
 Claim7.holds_tied_plain_at .later [] _ _ _ _ said (fun _ h => by cases h) (by kernel_rfl) (fun _ h => by cases h) pairReads_row_tie rfl ⟨rfl, rfl⟩ (by kernel_rfl) rfl plain (by kernel_rfl)
end Go.Proofs.YtfonajakaimnoaaDoor.pairReads
namespace Go.Proofs.YtfonajakaimnoaaDoor
theorem pairReads_holds : Rows.PairReadsCardSaid := pairReads.card
end Go.Proofs.YtfonajakaimnoaaDoor
