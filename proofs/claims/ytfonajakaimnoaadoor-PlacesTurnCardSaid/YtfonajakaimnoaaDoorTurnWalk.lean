/- caesuralaw11.PlacesTurn: its walk. -/
import Derived.Test.YtfonajakaimnoaaDoorReverse
import Derived.Test.YtfonajakaimnoaaDoorFirst
import Derived.Test.YtfonajakaimnoaaDoorLib55
import Derived.Test.YtfonajakaimnoaaDoorLib57
import Derived.Test.YtfonajakaimnoaaDoorLib37
import Derived.Test.YtfonajakaimnoaaDoorLib50
namespace Go.Proofs.YtfonajakaimnoaaDoor.C11
open Go.RowKit Go.Proofs.YtfonajakaimnoaaDoorW.PrintWords Go.Proofs.YtfonajakaimnoaaDoorW.PrintLast Go.Proofs.YtfonajakaimnoaaDoorW.PrintMore Go.Proofs.YtfonajakaimnoaaDoor.Lib Lent Go.Proofs.YtfonajakaimnoaaDoor.Fn Go.Shelf Go.Proofs.YtfonajakaimnoaaDoor.Stl
set_option linter.unusedVariables false
set_option linter.unusedSimpArgs false
attribute [local go_sem] max2_int min2_int max_two min_two max_three min_three max_four min_four

/-- what the plain side gives of tidy positions and a word -/
structure Plain (L : LL) (F La : List Int) (Fo : LL) (b : Bool) (ws wb : List Int) (ks kb : Nat) : Prop where
  s8 : L.length ≤ 8
  nl : L.length < 5000000000000
  t1 : Fo.length = L.length
  t4 : (turnK Fo L.length L.length).length = L.length
  b1 : F.length < 10000000000000
  b2 : La.length < 10000000000000
  bl : ∀ l ∈ L, l.length < 10000000000000
  b3 : tot Fo Fo.length ≤ 5000000000000
  b4 : tot (turnK Fo L.length L.length) (turnK Fo L.length L.length).length ≤ 5000000000000
  t2 : total L ≤ 9223372036854775807
  t3 : total Fo ≤ 9223372036854775807
  t5 : total (turnK Fo L.length L.length) ≤ 9223372036854775807
  ok1 : revOk L F La Fo = true
  ok2 : revOk L La F (turnK Fo L.length L.length) = true
  c1 : checkC L F La Fo 4 = 0
  c2 : checkC L La F (turnK Fo L.length L.length) 4 = 0
  same : caesuraref0_SamePositions.f ks L F La (turnK (turnK Fo L.length L.length) L.length L.length) b L F La Fo b = some true
  bk : caesuralaw11_back.f kb ws = some wb
  m : matchB L La F (turnK Fo L.length L.length) b wb = matchB L F La Fo b ws

structure TS (w : World) (eM eA : Value) (b3 b6 : Nat) (B0 B1 B2 B3 E0 E1 E2 E3 W4 : Option Addr) (d0 d1 d2 d3 e0 e1 e2 e3 : Nat) (L : LL) (F La : List Int) (Fo : LL) (b : Bool) (ws : List Int) (W : World) : Prop where
  below : Below w.heap.size w W
  gM : W.cell? ⟨2, 0, none⟩ = some eM
  gA : W.cell? ⟨0, 0, none⟩ = some eA
  p0 : Kd.C kL W B0 L.length L
  p1 : Kd.C kI W B1 F.length F
  p2 : Kd.C kI W B2 La.length La
  p3 : Kd.C kL W B3 Fo.length Fo
  r0 : Kd.C kL W E0 L.length L
  r1 : Kd.C kI W E1 La.length La
  r2 : Kd.C kI W E2 F.length F
  r3 : Kd.C kL W E3 (turnK Fo L.length L.length).length (turnK Fo L.length L.length)
  w0 : Kd.C kI W W4 ws.length ws
  hp : W.heap[b3]? = some (.cells #[.slice B0 L.length d0, .slice B1 F.length d1, .slice B2 La.length d2, .slice B3 Fo.length d3, .bool b] 42 (0, 0))
  hr : W.heap[b6]? = some (.cells #[.slice E0 L.length e0, .slice E1 La.length e1, .slice E2 F.length e2, .slice E3 (turnK Fo L.length L.length).length e3, .bool b] 42 (0, 0))
section
variable {w : World} {eM eA : Value} {b3 b6 : Nat} {B0 B1 B2 B3 E0 E1 E2 E3 W4 : Option Addr} {d0 d1 d2 d3 e0 e1 e2 e3 : Nat} {L : LL} {F La : List Int} {Fo : LL} {b : Bool} {ws : List Int} {W W' : World}
theorem TS.step (h : TS w eM eA b3 b6 B0 B1 B2 B3 E0 E1 E2 E3 W4 d0 d1 d2 d3 e0 e1 e2 e3 L F La Fo b ws W) (hb : Below W.heap.size W W') : TS w eM eA b3 b6 B0 B1 B2 B3 E0 E1 E2 E3 W4 d0 d1 d2 d3 e0 e1 e2 e3 L F La Fo b ws W' :=
  ⟨below_step h.below hb, pw_cell_below hb h.gM, pw_cell_below hb h.gA, Kd.C_below h.p0 hb, Kd.C_below h.p1 hb, Kd.C_below h.p2 hb, Kd.C_below h.p3 hb, Kd.C_below h.r0 hb, Kd.C_below h.r1 hb, Kd.C_below h.r2 hb, Kd.C_below h.r3 hb, Kd.C_below h.w0 hb, (hb.block _ (blk_lt h.hp)).trans h.hp, (hb.block _ (blk_lt h.hr)).trans h.hr⟩
theorem TS.held (h : TS w eM eA b3 b6 B0 B1 B2 B3 E0 E1 E2 E3 W4 d0 d1 d2 d3 e0 e1 e2 e3 L F La Fo b ws W) :
    W.cell? ⟨b3, 0, none⟩ = some (.slice B0 L.length d0) ∧ W.cell? ⟨b3, 1, none⟩ = some (.slice B1 F.length d1) ∧ W.cell? ⟨b3, 2, none⟩ = some (.slice B2 La.length d2) ∧ W.cell? ⟨b3, 3, none⟩ = some (.slice B3 Fo.length d3) ∧ W.cell? ⟨b3, 4, none⟩ = some (.bool b) ∧
    W.cell? ⟨b6, 0, none⟩ = some (.slice E0 L.length e0) ∧ W.cell? ⟨b6, 1, none⟩ = some (.slice E1 La.length e1) ∧ W.cell? ⟨b6, 2, none⟩ = some (.slice E2 F.length e2) ∧ W.cell? ⟨b6, 3, none⟩ = some (.slice E3 (turnK Fo L.length L.length).length e3) ∧ W.cell? ⟨b6, 4, none⟩ = some (.bool b) :=
  ⟨(blk_cell h.hp 0).trans rfl, (blk_cell h.hp 1).trans rfl, (blk_cell h.hp 2).trans rfl, (blk_cell h.hp 3).trans rfl, (blk_cell h.hp 4).trans rfl, (blk_cell h.hr 0).trans rfl, (blk_cell h.hr 1).trans rfl, (blk_cell h.hr 2).trans rfl, (blk_cell h.hr 3).trans rfl, (blk_cell h.hr 4).trans rfl⟩
end
def pk (x : Int) : Int := (caesurakit_Pick.f x 4).getD 0
theorem pk_eq (x : Int) : caesurakit_Pick.f x 4 = some (pk x) := by
  unfold pk caesurakit_Pick.f
  rw [if_neg (by decide), if_neg (by decide)]
  split <;> rfl
def trn.T8 : Bool × List (List Nat × List Nat) := (true, [([], []), ([0], [0]), ([], []), ([1, 2, 1], [1, 2]), ([3, 3, 0, 1, 2, 3], [3])])
def trn.B8 : List Nat := [0, 1, 0, 7, 15]
theorem trn.tab8 : rtab .any (opsOf Tryd.f5 8) = trn.T8 := by kernel_rfl
theorem trn.bits8 : waitsOk trn.T8.2 trn.B8 = true := by kernel_rfl
def trn.T10 : Bool × List (List Nat × List Nat) := (true, [([], []), ([0], [0]), ([1], [1]), ([2, 1, 1], [1, 2]), ([3, 1], [1, 3]), ([1, 4], [1, 4]), ([5, 3], [5]), ([6], [6]), ([7, 6, 6], [6, 7]), ([8, 6], [6, 8]), ([6, 9], [6, 9]), ([10, 8], [10]), ([11], [11]), ([11, 12], [11, 12]), ([13, 11], [13]), ([14], [14]), ([14], [14]), ([16, 14, 14], [14, 16]), ([15, 17, 17, 14], [14, 15, 17]), ([14], [14]), ([14], [14]), ([19, 20, 18, 14], [14, 19, 20]), ([18, 21, 14], [14, 18, 21]), ([14, 22], [14, 22]), ([23, 21, 0, 1, 2, 3, 4, 5, 6, 7, 8, 9, 10, 11, 12, 13, 14, 15, 16, 17, 18, 19, 20, 21, 22, 23], [23])])
def trn.B10 : List Nat := [0, 1, 3, 7, 15, 31, 63, 127, 255, 511, 1023, 2047, 4095, 8191, 16383, 32767, 32767, 98303, 262143, 32767, 32767, 2097151, 4194303, 8388607, 16777215]
theorem trn.tab10 : rtab .any (opsOf Tryd.f5 10) = trn.T10 := by kernel_rfl
theorem trn.bits10 : waitsOk trn.T10.2 trn.B10 = true := by kernel_rfl

set_option maxHeartbeats 8000000 in
set_option maxRecDepth 100000 in
theorem turn_calls (A0 : Option Addr) (c0 : Nat) (X0 : LL) (A1 : Option Addr) (c1 : Nat) (X1 : List Int) (A2 : Option Addr) (c2 : Nat) (X2 : List Int) (A3 : Option Addr) (c3 : Nat) (X3 : LL) (b : Bool) (sy : Int) (A4 : Option Addr) (c4 : Nat) (word : List Int) (w : World) (eM eA : Value)
    (h0 : Kd.C kL w A0 X0.length X0 ∧ X0.length ≤ c0) (h1 : Kd.C kI w A1 X1.length X1 ∧ X1.length ≤ c1) (h2 : Kd.C kI w A2 X2.length X2 ∧ X2.length ≤ c2) (h3 : Kd.C kL w A3 X3.length X3 ∧ X3.length ≤ c3) (h4 : Kd.C kI w A4 word.length word)
    (hM : w.cell? ⟨2, 0, none⟩ = some eM) (hA : w.cell? ⟨0, 0, none⟩ = some eA)
    (kt : Nat) (L : LL) (F La : List Int) (Fo : LL) (ht : caesuralaw11_tidy.f kt X0 X1 X2 X3 b = some (L, F, La, Fo, b)) (ks kb : Nat) (wb : List Int) (hg : Plain L F La Fo b ((word.take 20).map pk) wb ks kb) :
    Calls Tryd.prog 5 #[.agg #[.slice A0 X0.length c0, .slice A1 X1.length c1, .slice A2 X2.length c2, .slice A3 X3.length c3, .bool b, .int .i64 sy, .slice A4 word.length c4]] w fun e w' => e = .returned (.bool true) ∧ Below w.heap.size w w' := by
  have hu := Tryd.underlying42
  have hu2 := Tryd.underlying44
  have H0 := Aside0.mk h0
  have H1 := Aside0.mk h1
  have H2 := Aside0.mk h2
  have H3 := Aside0.mk h3
  have H4 := Aside0.mk h4
  have HM := Aside0.mk (And.intro hM hA)
  have HG := Aside0.mk hg
  have HT0 := Aside0.mk ht
  have hb4 := C_bound h4
  clear h0 h1 h2 h3 h4 hM hA hg ht
  go_enter Tryd.func5, Tryd.ntmps5
  go_wp2_with fail
  have hbW := fun (o1 : Obj) => (below_alloc (Below.refl w.heap.size w) o1)
  refine (caesuralaw11_tidy.calls kt A0 c0 X0 A1 c1 X1 A2 c2 X2 A3 c3 X3 b L F La Fo b _ (Kd.C_below H0.out.1 (hbW _)) H0.out.2 (Kd.C_below H1.out.1 (hbW _)) H1.out.2 (Kd.C_below H2.out.1 (hbW _)) H2.out.2 (Kd.C_below H3.out.1 (hbW _)) H3.out.2 HT0.out).mono ?_
  rintro e w1 ⟨v0, v1, v2, v3, rfl, k0, k1, k2, k3, hb⟩
  obtain ⟨B0, d0, rfl, hp0, y0⟩ := Kd.S_reads k0
  obtain ⟨B1, d1, rfl, hp1, y1⟩ := Kd.R_reads k1
  obtain ⟨B2, d2, rfl, hp2, y2⟩ := Kd.R_reads k2
  obtain ⟨B3, d3, rfl, hp3, y3⟩ := Kd.S_reads k3
  have HY := Aside0.mk (And.intro y0 (And.intro y1 (And.intro y2 y3)))
  have HP := Aside0.mk (And.intro hp0 (And.intro hp1 (And.intro hp2 hp3)))
  have hz : w.heap.size < w1.heap.size := by have := hb.size; simp at this; omega
  have q6 : w1.cell? ⟨w.heap.size, 6, none⟩ = some (.slice A4 word.length c4) := (hb.cell (p := ⟨w.heap.size, 6, none⟩) (by simp)).trans (by go_simp)
  have HB := Aside0.mk (below_step (hbW _) hb)
  clear hb k0 k1 k2 k3 y0 y1 y2 y3 hp0 hp1 hp2 hp3 hbW
  go_wp2_with fail
  go_loopg [4, 5] (min word.length 20) (fun gg v4 v5 wr => ∃ (kk : Nat), kk ≤ word.length ∧ kk ≤ 20 ∧ min word.length 20 - kk ≤ gg ∧ v5 = .int .i64 kk ∧ Aside0 (Kd.R kI 3 wr (w1.heap.size + 1) (fun _ => True) v4 ((word.take kk).map pk)) ∧ Aside0 (Below (w1.heap.size + 1) (w1.alloc (.cells #[.slice B0 L.length d0, .slice B1 F.length d1, .slice B2 La.length d2, .slice B3 Fo.length d3, .bool b] 42)) wr))
  case atStart => exact ⟨0, Nat.zero_le _, Nat.zero_le _, by omega, rfl, ⟨Kd.R_nil _ _ _ _ _⟩, ⟨Below.refl _ _⟩⟩
  case round =>
    obtain ⟨kk, hk1, hk2, hgk, rfl, HR4, HBr⟩ := hrel
    have q6' : wr.cell? ⟨w.heap.size, 6, none⟩ = some (.slice A4 word.length c4) := (HBr.out.cell (p := ⟨w.heap.size, 6, none⟩) (by show w.heap.size < _; omega)).trans (cell_alloc q6 _)
    have hb1 : Below w1.heap.size w1 wr := below_step (below_alloc (Below.refl _ w1) (.cells #[.slice B0 L.length d0, .slice B1 F.length d1, .slice B2 La.length d2, .slice B3 Fo.length d3, .bool b] 42)) (by simpa using HBr.out)
    have HBw := Aside0.mk (And.intro hb1 (below_step HB.out hb1))
    clear hb1
    go_upto_region 4 with fail
    go_cut [20] (fun v20 wc => v20 = .bool (decide (kk < word.length) && decide (kk < 20)) ∧ wr = wc)
    case first =>
      by_cases hlt : kk < word.length
      · have hd1 : decide ((kk : Int) < (word.length : Int)) = true := by simpa using hlt
        have hl1 : (kk : Int) < (word.length : Int) := by omega
        by_cases h20 : kk < 20
        · have hd2 : decide ((kk : Int) < 20) = true := by simp; omega
          have hl2 : (kk : Int) < 20 := by omega
          have he : Aside0 ((decide (kk < word.length) && decide (kk < 20)) = true) := ⟨by simp [hlt, h20]⟩
          go_wp2_with fail
          go_meet
          exact ⟨by rw [he.out], rfl⟩
        · have hd2 : decide ((kk : Int) < 20) = false := by simp; omega
          have he : Aside0 ((decide (kk < word.length) && decide (kk < 20)) = false) := ⟨by simp [h20]⟩
          go_wp2_with fail
          go_meet
          exact ⟨by rw [he.out], rfl⟩
      · have hd1 : decide ((kk : Int) < (word.length : Int)) = false := by simp; omega
        have he : Aside0 ((decide (kk < word.length) && decide (kk < 20)) = false) := ⟨by simp [hlt]⟩
        go_wp2_with fail
        go_meet
        exact ⟨by rw [he.out], rfl⟩
    case rest =>
      obtain ⟨rfl, rfl⟩ := hcut
      by_cases hq : kk < word.length ∧ kk < 20
      · have he : (decide (kk < word.length) && decide (kk < 20)) = true := by simp [hq.1, hq.2]
        rw [he]
        clear he
        have hlt := hq.1
        have hltz : (kk : Int) < (word.length : Int) := by omega
        obtain ⟨ad, rfl, hcell'⟩ := int_at H4.out kk word[kk] (List.getElem?_eq_getElem hlt)
        have hcell := pw_cell_below HBw.out.2 hcell'
        have hsn : Aside0 ((word.take kk).map pk ++ [pk word[kk]] = (word.take (kk + 1)).map pk) := ⟨by rw [List.take_add_one, List.getElem?_eq_getElem hlt, List.map_append]; rfl⟩
        have hln : Aside0 (((word.take kk).map pk).length ≤ 20) := ⟨by simp; omega⟩
        generalize word[kk] = x at hcell hcell' hsn
        clear hcell'
        go_wp2_with fail
        refine (caesurakit_Pick.calls x 4 (pk x) _ (pk_eq x)).mono ?_
        rintro e wq ⟨rfl, ⟨⟨n5, rfl⟩⟩⟩
        go_wp2_with ((with_reducible refine gate_builtin (b := .append) (xs := #[.tmp 23, .tmp 30]) rfl ?_); at_builtin; refine Kd.R_append kI (w0 := (w1.alloc (.cells #[.slice B0 L.length d0, .slice B1 F.length d1, .slice B2 La.length d2, .slice B3 Fo.length d3, .bool b] 42))) (w1.heap.size + 1) rfl (.tmp 23) (.tmp 30) 25 3 (.int .i64 0) 8 rfl Tryd.underlying25 info3 rfl (by decide) (by omega) _ ((word.take kk).map pk) (pk x) [.int .i64 (pk x)] (fun _ => True) (fun _ => False) rfl rfl ?aP (fun _ hk => hk.elim) ?aF ?aO ?aB ?aS ?aL ?_; (case aP => exact rfl); (case aB => exact pw_below_drewN HBr.out _); (case aF => exact (fun _ _ => trivial)); (case aO => exact Kd.R_drewN HR4.out _); (case aS => exact (by have := HBr.out.size; simpa using this)); (case aL => have := hln.out; omega); intro vz wz ho hbz hgz hatz; have HO := Aside0.mk ho; have HBz := Aside0.mk hbz; clear ho hbz hgz hatz)
        go_roundg (min word.length 20 - (kk + 1))
        case measure => omega
        case rel => exact ⟨kk + 1, by omega, by omega, by omega, by go_num, ⟨by rw [← hsn.out]; exact HO.out⟩, HBz⟩
      · have he : (decide (kk < word.length) && decide (kk < 20)) = false := by
          by_cases h1 : kk < word.length
          · have : ¬ kk < 20 := fun h => hq ⟨h1, h⟩
            simp [this]
          · simp [h1]
        rw [he]
        clear he
        have hend : word.take kk = word.take 20 := by
          by_cases h1 : kk < word.length
          · rw [show kk = 20 by omega]
          · rw [List.take_of_length_le (by omega), List.take_of_length_le (by omega)]
        rw [hend] at HR4
        clear hend hq
        generalize (word.take 20).map pk = ws at HR4 HG
        obtain ⟨W4, q4, hv4, hq4, y4⟩ := Kd.R_reads HR4.out
        have HW := Aside0.mk hq4
        have HY4 := Aside0.mk y4
        subst hv4
        clear hq4 y4 HR4 q6'
        have HP3 := Aside0.mk ((HBr.out.block w1.heap.size (Nat.lt_succ_self _)).trans (heap_alloc_new w1 _))
        have p0 : wr.cell? ⟨w1.heap.size, 0, none⟩ = some (.slice B0 L.length d0) := (blk_cell HP3.out 0).trans rfl
        have p1 : wr.cell? ⟨w1.heap.size, 1, none⟩ = some (.slice B1 F.length d1) := (blk_cell HP3.out 1).trans rfl
        have p2 : wr.cell? ⟨w1.heap.size, 2, none⟩ = some (.slice B2 La.length d2) := (blk_cell HP3.out 2).trans rfl
        have p3 : wr.cell? ⟨w1.heap.size, 3, none⟩ = some (.slice B3 Fo.length d3) := (blk_cell HP3.out 3).trans rfl
        have p4 : wr.cell? ⟨w1.heap.size, 4, none⟩ = some (.bool b) := (blk_cell HP3.out 4).trans rfl
        go_wp2_with fail
        refine (reverse_calls B0 d0 L B1 d1 F B2 d2 La B3 d3 Fo b _ ⟨Kd.C_below HY.out.1 HBw.out.1, HP.out.1⟩ ⟨Kd.C_below HY.out.2.1 HBw.out.1, HP.out.2.1⟩ ⟨Kd.C_below HY.out.2.2.1 HBw.out.1, HP.out.2.2.1⟩ ⟨Kd.C_below HY.out.2.2.2 HBw.out.1, HP.out.2.2.2⟩ (by have := HG.out.t1; have := HG.out.s8; omega) HG.out.nl HG.out.b1 HG.out.b2 HG.out.bl HG.out.b3).mono ?_
        rintro e w2 ⟨z0, z1, z2, z3, rfl, k0, k1, k2, k3, hb⟩
        rw [HG.out.ok1] at k0 k1 k2 k3 ⊢
        simp only [if_true, Bool.true_and] at k0 k1 k2 k3 ⊢
        obtain ⟨E0, e0, rfl, hz0, y0⟩ := Kd.R_reads k0
        obtain ⟨E1, e1, rfl, hz1, y1⟩ := Kd.R_reads k1
        obtain ⟨E2, e2, rfl, hz2, y2⟩ := Kd.R_reads k2
        obtain ⟨E3, e3, rfl, hz3, y3⟩ := Kd.R_reads k3
        have HR := Aside0.mk (And.intro hz0 (And.intro hz1 (And.intro hz2 hz3)))
        have hbb := below_step HBw.out.2 hb
        have ha := below_alloc (Below.refl w2.heap.size w2) (.cells #[.slice E0 L.length e0, .slice E1 La.length e1, .slice E2 F.length e2, .slice E3 (turnK Fo L.length L.length).length e3, .bool b] 42)
        have HS : Aside0 (TS w eM eA w1.heap.size w2.heap.size B0 B1 B2 B3 E0 E1 E2 E3 W4 d0 d1 d2 d3 e0 e1 e2 e3 L F La Fo b ws (w2.alloc (.cells #[.slice E0 L.length e0, .slice E1 La.length e1, .slice E2 F.length e2, .slice E3 (turnK Fo L.length L.length).length e3, .bool b] 42))) := ⟨⟨below_alloc hbb _, cell_alloc (pw_cell_below hbb HM.out.1) _, cell_alloc (pw_cell_below hbb HM.out.2) _, Kd.C_alloc (Kd.C_below (Kd.C_below HY.out.1 HBw.out.1) hb) _, Kd.C_alloc (Kd.C_below (Kd.C_below HY.out.2.1 HBw.out.1) hb) _, Kd.C_alloc (Kd.C_below (Kd.C_below HY.out.2.2.1 HBw.out.1) hb) _, Kd.C_alloc (Kd.C_below (Kd.C_below HY.out.2.2.2 HBw.out.1) hb) _, Kd.C_alloc y0 _, Kd.C_alloc y1 _, Kd.C_alloc y2 _, Kd.C_alloc y3 _, Kd.C_alloc (Kd.C_below HY4.out hb) _, (heap_alloc_old _ _ (Nat.lt_of_lt_of_le (blk_lt HP3.out) hb.size)).trans ((hb.block _ (blk_lt HP3.out)).trans HP3.out), heap_alloc_new _ _⟩⟩
        clear hb hbb ha k0 k1 k2 k3 y0 y1 y2 y3 hz0 hz1 hz2 hz3 p0 p1 p2 p3 p4 HP3
        go_upto_region 8 with fail
        replace HS := Aside0.mk (HS.out.step (below_drew (Below.refl _ _)))
        refine start_ (n := 5) (S := (fun w' => w'.cell? ⟨w1.heap.size, 0, none⟩ = some (.slice B0 L.length d0) ∧ w'.cell? ⟨w1.heap.size, 1, none⟩ = some (.slice B1 F.length d1) ∧ w'.cell? ⟨w1.heap.size, 2, none⟩ = some (.slice B2 La.length d2) ∧ w'.cell? ⟨w1.heap.size, 3, none⟩ = some (.slice B3 Fo.length d3) ∧ w'.cell? ⟨w1.heap.size, 4, none⟩ = some (.bool b) ∧ w'.cell? ⟨w2.heap.size, 0, none⟩ = some (.slice E0 L.length e0) ∧ w'.cell? ⟨w2.heap.size, 1, none⟩ = some (.slice E1 La.length e1) ∧ w'.cell? ⟨w2.heap.size, 2, none⟩ = some (.slice E2 F.length e2) ∧ w'.cell? ⟨w2.heap.size, 3, none⟩ = some (.slice E3 (turnK Fo L.length L.length).length e3) ∧ w'.cell? ⟨w2.heap.size, 4, none⟩ = some (.bool b))) (ds := [4]) #[false, false, false, false, false] (by kernel_rfl) rfl rfl HS.out.held (fun hHeld => ?_)
        refine with_tabW trn.tab8 trn.bits8 (fun HT_ HW_ => ?_)
        generalize (World.drew _) = wn at HS hHeld ⊢
        refine take_ (i := 0) (N := some 34) (v := ?_) (a' := ?_) #[true, false, false, false, false] rfl rfl (take_ofW HT_.out HW_.out (by kernel_rfl)) (fun _ _ _ h => h) (Or.inl ⟨by rfl, ?_⟩) hHeld ?_ ?_
        rotate_left
        · rintro w' ⟨s0, s1, s2, s3, s4, s5, s6, s7, s8, s9⟩
          go_simp
          with_reducible rfl
        rotate_left
        · simp only [Act.put, List.setIfInBounds_toArray, List.set_cons_zero, List.set_cons_succ, i64_w, i32_w]
          rfl
        refine take_ (i := 2) (N := some 36) (v := ?_) (a' := ?_) #[true, false, true, false, false] rfl rfl (take_ofW HT_.out HW_.out (by kernel_rfl)) (fun _ _ _ h => h) (Or.inl ⟨by rfl, ?_⟩) hHeld ?_ ?_
        rotate_left
        · rintro w' ⟨s0, s1, s2, s3, s4, s5, s6, s7, s8, s9⟩
          go_simp
          with_reducible rfl
        rotate_left
        · simp only [Act.put, List.setIfInBounds_toArray, List.set_cons_zero, List.set_cons_succ, i64_w, i32_w]
          rfl
        refine one_ (i := 1) (N := some 35) #[true, true, true, false, false] rfl rfl (one_of HT_.out (by kernel_rfl)) (by decide) (fun K hK => ?_)
        refine goes_ Tryd.func24 (by kernel_rfl) rfl #[.agg #[.slice E0 L.length e0, .slice E1 La.length e1, .slice E2 F.length e2, .slice E3 (turnK Fo L.length L.length).length e3, .bool b]] (by rfl) rfl rfl (by (try simp only [List.map_toArray, List.map_cons, List.map_nil]); first | done | rfl) ?_
        refine (reverse_calls E0 e0 L E1 e1 La E2 e2 F E3 e3 (turnK Fo L.length L.length) b _ ⟨HS.out.r0, HR.out.1⟩ ⟨HS.out.r1, HR.out.2.1⟩ ⟨HS.out.r2, HR.out.2.2.1⟩ ⟨HS.out.r3, HR.out.2.2.2⟩ (by have := HG.out.t4; have := HG.out.s8; omega) HG.out.nl HG.out.b2 HG.out.b1 HG.out.bl HG.out.b4).mono ?_
        rintro e wm ⟨z0, z1, z2, z3, rfl, k0, k1, k2, k3, hb⟩
        refine ⟨_, rfl, ?_⟩
        rw [HG.out.ok2] at k0 k1 k2 k3 ⊢
        simp only [if_true, Bool.true_and] at k0 k1 k2 k3 ⊢
        obtain ⟨Z0, f0, rfl, hz0, y0⟩ := Kd.R_reads k0
        obtain ⟨Z1, f1, rfl, hz1, y1⟩ := Kd.R_reads k1
        obtain ⟨Z2, f2, rfl, hz2, y2⟩ := Kd.R_reads k2
        obtain ⟨Z3, f3, rfl, hz3, y3⟩ := Kd.R_reads k3
        have HZ := Aside0.mk (And.intro y0 (And.intro hz0 (And.intro y1 (And.intro hz1 (And.intro y2 (And.intro hz2 (And.intro y3 hz3)))))))
        clear k0 k1 k2 k3 y0 y1 y2 y3 hz0 hz1 hz2 hz3
        replace HS := Aside0.mk (HS.out.step hb)
        obtain ⟨wn, rfl⟩ : ∃ wn, wn = wm := ⟨_, rfl⟩
        refine hK.out _ _ HS.out.held (fun hHeld => ?_)
        clear hK K hb
        refine norm_ (a' := ?_) ?_ ?_
        rotate_left
        · show Act.put _ (some 35) _ = _
          simp only [Act.put, List.setIfInBounds_toArray, List.set_cons_zero, List.set_cons_succ, i64_w, i32_w]
          rfl
        refine one_ (i := 3) (N := some 37) #[true, true, true, true, false] rfl rfl (one_of HT_.out (by kernel_rfl)) (by decide) (fun K hK => ?_)
        refine goes_ Tryd.func25 (by kernel_rfl) rfl #[.agg #[.slice Z0 L.length f0, .slice Z1 F.length f1, .slice Z2 La.length f2, .slice Z3 (turnK (turnK Fo L.length L.length) L.length L.length).length f3, .bool b], .agg #[.slice B0 L.length d0, .slice B1 F.length d1, .slice B2 La.length d2, .slice B3 Fo.length d3, .bool b]] (by rfl) rfl rfl (by (try simp only [List.map_toArray, List.map_cons, List.map_nil]); first | done | rfl) ?_
        refine (caesuraref0_SamePositions.calls ks Z0 f0 L Z1 f1 F Z2 f2 La Z3 f3 (turnK (turnK Fo L.length L.length) L.length L.length) b B0 d0 L B1 d1 F B2 d2 La B3 d3 Fo b true _ HZ.out.1 HZ.out.2.1 HZ.out.2.2.1 HZ.out.2.2.2.1 HZ.out.2.2.2.2.1 HZ.out.2.2.2.2.2.1 HZ.out.2.2.2.2.2.2.1 HZ.out.2.2.2.2.2.2.2 HS.out.p0 HP.out.1 HS.out.p1 HP.out.2.1 HS.out.p2 HP.out.2.2.1 HS.out.p3 HP.out.2.2.2 HG.out.same).mono ?_
        rintro e wm ⟨rfl, hb⟩
        refine ⟨_, rfl, ?_⟩
        skip
        replace HS := Aside0.mk (HS.out.step hb)
        obtain ⟨wn, rfl⟩ : ∃ wn, wn = wm := ⟨_, rfl⟩
        refine hK.out _ _ HS.out.held (fun hHeld => ?_)
        clear hK K hb
        refine norm_ (a' := ?_) ?_ ?_
        rotate_left
        · show Act.put _ (some 37) _ = _
          simp only [Act.put, List.setIfInBounds_toArray, List.set_cons_zero, List.set_cons_succ, i64_w, i32_w]
          rfl
        refine pure_ (i := 4) (N := some 7) (v := ?_) (a' := ?_) #[true, true, true, true, true] rfl rfl (any_of HT_.out (by kernel_rfl)) (fun _ _ _ h => h) (Or.inl ⟨by rfl, ?_⟩) ?_ ?_
        rotate_left
        · intro w'
          go_simp
          with_reducible rfl
        rotate_left
        · simp only [Act.put, List.setIfInBounds_toArray, List.set_cons_zero, List.set_cons_succ, i64_w, i32_w]
          rfl
        refine done_ (done_of HT_.out (by kernel_rfl)) ?_
        clear HZ
        go_wp2_with fail
        refine (first_calls _ eM eA HS.out.gM HS.out.gA).mono ?_
        rintro e wf ⟨rfl, hb⟩
        replace HS := Aside0.mk (HS.out.step hb)
        clear hb
        go_upto_region 10 with fail
        replace HS := Aside0.mk (HS.out.step (below_drew (Below.refl _ _)))
        refine start_ (n := 25) (S := (fun w' => w'.cell? ⟨w1.heap.size, 0, none⟩ = some (.slice B0 L.length d0) ∧ w'.cell? ⟨w1.heap.size, 1, none⟩ = some (.slice B1 F.length d1) ∧ w'.cell? ⟨w1.heap.size, 2, none⟩ = some (.slice B2 La.length d2) ∧ w'.cell? ⟨w1.heap.size, 3, none⟩ = some (.slice B3 Fo.length d3) ∧ w'.cell? ⟨w1.heap.size, 4, none⟩ = some (.bool b) ∧ w'.cell? ⟨w2.heap.size, 0, none⟩ = some (.slice E0 L.length e0) ∧ w'.cell? ⟨w2.heap.size, 1, none⟩ = some (.slice E1 La.length e1) ∧ w'.cell? ⟨w2.heap.size, 2, none⟩ = some (.slice E2 F.length e2) ∧ w'.cell? ⟨w2.heap.size, 3, none⟩ = some (.slice E3 (turnK Fo L.length L.length).length e3) ∧ w'.cell? ⟨w2.heap.size, 4, none⟩ = some (.bool b))) (ds := [24]) #[false, false, false, false, false, false, false, false, false, false, false, false, false, false, false, false, false, false, false, false, false, false, false, false, false] (by kernel_rfl) rfl rfl HS.out.held (fun hHeld => ?_)
        refine with_tabW trn.tab10 trn.bits10 (fun HT_ HW_ => ?_)
        clear hHeld
        have hHeld := HS.out.held
        generalize (World.drew _) = wn at HS hHeld ⊢
        refine pure_ (i := 0) (N := some 39) (v := ?_) (a' := ?_) #[true, false, false, false, false, false, false, false, false, false, false, false, false, false, false, false, false, false, false, false, false, false, false, false, false] rfl rfl (any_of HT_.out (by kernel_rfl)) (fun _ _ _ h => h) (Or.inl ⟨by rfl, ?_⟩) ?_ ?_
        rotate_left
        · intro w'
          go_simp
          with_reducible rfl
        rotate_left
        · simp only [Act.put, List.setIfInBounds_toArray, List.set_cons_zero, List.set_cons_succ, i64_w, i32_w]
          rfl
        refine pure_ (i := 1) (N := some 40) (v := ?_) (a' := ?_) #[true, true, false, false, false, false, false, false, false, false, false, false, false, false, false, false, false, false, false, false, false, false, false, false, false] rfl rfl (any_of HT_.out (by kernel_rfl)) (fun _ _ _ h => h) (Or.inl ⟨by rfl, ?_⟩) ?_ ?_
        rotate_left
        · intro w'
          go_simp
          with_reducible rfl
        rotate_left
        · simp only [Act.put, List.setIfInBounds_toArray, List.set_cons_zero, List.set_cons_succ, i64_w, i32_w]
          rfl
        refine take_ (i := 2) (N := some 41) (v := ?_) (a' := ?_) #[true, true, true, false, false, false, false, false, false, false, false, false, false, false, false, false, false, false, false, false, false, false, false, false, false] rfl rfl (take_ofW HT_.out HW_.out (by kernel_rfl)) (fun _ _ _ h => h) (Or.inl ⟨by rfl, ?_⟩) hHeld ?_ ?_
        rotate_left
        · rintro w' ⟨s0, s1, s2, s3, s4, s5, s6, s7, s8, s9⟩
          go_simp
          with_reducible rfl
        rotate_left
        · simp only [Act.put, List.setIfInBounds_toArray, List.set_cons_zero, List.set_cons_succ, i64_w, i32_w]
          rfl
        refine one_ (i := 3) (N := some 42) #[true, true, true, true, false, false, false, false, false, false, false, false, false, false, false, false, false, false, false, false, false, false, false, false, false] rfl rfl (one_of HT_.out (by kernel_rfl)) (by decide) (fun K hK => ?_)
        refine goes_ Tryd.func22 (by kernel_rfl) rfl #[.agg #[.slice B0 L.length d0, .slice B1 F.length d1, .slice B2 La.length d2, .slice B3 Fo.length d3, .bool b], .int .i64 4] (by rfl) rfl rfl (by (try simp only [List.map_toArray, List.map_cons, List.map_nil]); first | done | rfl) ?_
        refine (check_calls B0 d0 L B1 d1 F B2 d2 La B3 d3 Fo b 4 eM eA _ ⟨HS.out.p0, HP.out.1⟩ ⟨HS.out.p1, HP.out.2.1⟩ ⟨HS.out.p2, HP.out.2.2.1⟩ ⟨HS.out.p3, HP.out.2.2.2⟩ (by have := HG.out.s8; omega) (by have := HG.out.t1; have := HG.out.s8; omega) HG.out.t2 HG.out.t3 HS.out.gM HS.out.gA).mono ?_
        rintro e wm ⟨rfl, hb⟩
        refine ⟨_, rfl, ?_⟩
        rw [HG.out.c1]
        simp only [errMA, Nat.reduceEqDiff, if_false]
        replace HS := Aside0.mk (HS.out.step hb)
        obtain ⟨wn, rfl⟩ : ∃ wn, wn = wm := ⟨_, rfl⟩
        refine hK.out _ _ HS.out.held (fun hHeld => ?_)
        clear hK K hb
        refine norm_ (a' := ?_) ?_ ?_
        rotate_left
        · show Act.put _ (some 42) _ = _
          simp only [Act.put, List.setIfInBounds_toArray, List.set_cons_zero, List.set_cons_succ, i64_w, i32_w]
          rfl
        refine pure_ (i := 4) (N := some 43) (v := ?_) (a' := ?_) #[true, true, true, true, true, false, false, false, false, false, false, false, false, false, false, false, false, false, false, false, false, false, false, false, false] rfl rfl (any_of HT_.out (by kernel_rfl)) (fun _ _ _ h => h) (Or.inl ⟨by rfl, ?_⟩) ?_ ?_
        rotate_left
        · intro w'
          go_simp
          with_reducible rfl
        rotate_left
        · simp only [Act.put, List.setIfInBounds_toArray, List.set_cons_zero, List.set_cons_succ, i64_w, i32_w]
          rfl
        refine pure_ (i := 5) (N := some 44) (v := ?_) (a' := ?_) #[true, true, true, true, true, true, false, false, false, false, false, false, false, false, false, false, false, false, false, false, false, false, false, false, false] rfl rfl (any_of HT_.out (by kernel_rfl)) (fun _ _ _ h => h) (Or.inl ⟨by rfl, ?_⟩) ?_ ?_
        rotate_left
        · intro w'
          go_simp
          with_reducible rfl
        rotate_left
        · simp only [Act.put, List.setIfInBounds_toArray, List.set_cons_zero, List.set_cons_succ, i64_w, i32_w]
          rfl
        refine pure_ (i := 6) (N := some 45) (v := ?_) (a' := ?_) #[true, true, true, true, true, true, true, false, false, false, false, false, false, false, false, false, false, false, false, false, false, false, false, false, false] rfl rfl (any_of HT_.out (by kernel_rfl)) (fun _ _ _ h => h) (Or.inl ⟨by rfl, ?_⟩) ?_ ?_
        rotate_left
        · intro w'
          go_simp
          with_reducible rfl
        rotate_left
        · simp only [Act.put, List.setIfInBounds_toArray, List.set_cons_zero, List.set_cons_succ, i64_w, i32_w]
          rfl
        refine take_ (i := 7) (N := some 46) (v := ?_) (a' := ?_) #[true, true, true, true, true, true, true, true, false, false, false, false, false, false, false, false, false, false, false, false, false, false, false, false, false] rfl rfl (take_ofW HT_.out HW_.out (by kernel_rfl)) (fun _ _ _ h => h) (Or.inl ⟨by rfl, ?_⟩) hHeld ?_ ?_
        rotate_left
        · rintro w' ⟨s0, s1, s2, s3, s4, s5, s6, s7, s8, s9⟩
          go_simp
          with_reducible rfl
        rotate_left
        · simp only [Act.put, List.setIfInBounds_toArray, List.set_cons_zero, List.set_cons_succ, i64_w, i32_w]
          rfl
        refine one_ (i := 8) (N := some 47) #[true, true, true, true, true, true, true, true, true, false, false, false, false, false, false, false, false, false, false, false, false, false, false, false, false] rfl rfl (one_of HT_.out (by kernel_rfl)) (by decide) (fun K hK => ?_)
        refine goes_ Tryd.func22 (by kernel_rfl) rfl #[.agg #[.slice E0 L.length e0, .slice E1 La.length e1, .slice E2 F.length e2, .slice E3 (turnK Fo L.length L.length).length e3, .bool b], .int .i64 4] (by rfl) rfl rfl (by (try simp only [List.map_toArray, List.map_cons, List.map_nil]); first | done | rfl) ?_
        refine (check_calls E0 e0 L E1 e1 La E2 e2 F E3 e3 (turnK Fo L.length L.length) b 4 eM eA _ ⟨HS.out.r0, HR.out.1⟩ ⟨HS.out.r1, HR.out.2.1⟩ ⟨HS.out.r2, HR.out.2.2.1⟩ ⟨HS.out.r3, HR.out.2.2.2⟩ (by have := HG.out.s8; omega) (by have := HG.out.t4; have := HG.out.s8; omega) HG.out.t2 HG.out.t5 HS.out.gM HS.out.gA).mono ?_
        rintro e wm ⟨rfl, hb⟩
        refine ⟨_, rfl, ?_⟩
        rw [HG.out.c2]
        simp only [errMA, Nat.reduceEqDiff, if_false]
        replace HS := Aside0.mk (HS.out.step hb)
        obtain ⟨wn, rfl⟩ : ∃ wn, wn = wm := ⟨_, rfl⟩
        refine hK.out _ _ HS.out.held (fun hHeld => ?_)
        clear hK K hb
        refine norm_ (a' := ?_) ?_ ?_
        rotate_left
        · show Act.put _ (some 47) _ = _
          simp only [Act.put, List.setIfInBounds_toArray, List.set_cons_zero, List.set_cons_succ, i64_w, i32_w]
          rfl
        refine pure_ (i := 9) (N := some 48) (v := ?_) (a' := ?_) #[true, true, true, true, true, true, true, true, true, true, false, false, false, false, false, false, false, false, false, false, false, false, false, false, false] rfl rfl (any_of HT_.out (by kernel_rfl)) (fun _ _ _ h => h) (Or.inl ⟨by rfl, ?_⟩) ?_ ?_
        rotate_left
        · intro w'
          go_simp
          with_reducible rfl
        rotate_left
        · simp only [Act.put, List.setIfInBounds_toArray, List.set_cons_zero, List.set_cons_succ, i64_w, i32_w]
          rfl
        refine pure_ (i := 10) (N := some 49) (v := ?_) (a' := ?_) #[true, true, true, true, true, true, true, true, true, true, true, false, false, false, false, false, false, false, false, false, false, false, false, false, false] rfl rfl (any_of HT_.out (by kernel_rfl)) (fun _ _ _ h => h) (Or.inl ⟨by rfl, ?_⟩) ?_ ?_
        rotate_left
        · intro w'
          go_simp
          with_reducible rfl
        rotate_left
        · simp only [Act.put, List.setIfInBounds_toArray, List.set_cons_zero, List.set_cons_succ, i64_w, i32_w]
          rfl
        refine pure_ (i := 11) (N := some 50) (v := ?_) (a' := ?_) #[true, true, true, true, true, true, true, true, true, true, true, true, false, false, false, false, false, false, false, false, false, false, false, false, false] rfl rfl (any_of HT_.out (by kernel_rfl)) (fun _ _ _ h => h) (Or.inl ⟨by rfl, ?_⟩) ?_ ?_
        rotate_left
        · intro w'
          go_simp
          with_reducible rfl
        rotate_left
        · simp only [Act.put, List.setIfInBounds_toArray, List.set_cons_zero, List.set_cons_succ, i64_w, i32_w]
          rfl
        refine pure_ (i := 12) (N := some 51) (v := ?_) (a' := ?_) #[true, true, true, true, true, true, true, true, true, true, true, true, true, false, false, false, false, false, false, false, false, false, false, false, false] rfl rfl (any_of HT_.out (by kernel_rfl)) (fun _ _ _ h => h) (Or.inl ⟨by rfl, ?_⟩) ?_ ?_
        rotate_left
        · intro w'
          go_simp
          with_reducible rfl
        rotate_left
        · simp only [Act.put, List.setIfInBounds_toArray, List.set_cons_zero, List.set_cons_succ, i64_w, i32_w]
          rfl
        refine pure_ (i := 13) (N := some 52) (v := ?_) (a' := ?_) #[true, true, true, true, true, true, true, true, true, true, true, true, true, true, false, false, false, false, false, false, false, false, false, false, false] rfl rfl (any_of HT_.out (by kernel_rfl)) (fun _ _ _ h => h) (Or.inl ⟨by rfl, ?_⟩) ?_ ?_
        rotate_left
        · intro w'
          go_simp
          with_reducible rfl
        rotate_left
        · simp only [Act.put, List.setIfInBounds_toArray, List.set_cons_zero, List.set_cons_succ, i64_w, i32_w]
          rfl
        refine pure_ (i := 14) (N := some 53) (v := ?_) (a' := ?_) #[true, true, true, true, true, true, true, true, true, true, true, true, true, true, true, false, false, false, false, false, false, false, false, false, false] rfl rfl (any_of HT_.out (by kernel_rfl)) (fun _ _ _ h => h) (Or.inl ⟨by rfl, ?_⟩) ?_ ?_
        rotate_left
        · intro w'
          go_simp
          with_reducible rfl
        rotate_left
        · simp only [Act.put, List.setIfInBounds_toArray, List.set_cons_zero, List.set_cons_succ, i64_w, i32_w]
          rfl
        refine take_ (i := 15) (N := some 54) (v := ?_) (a' := ?_) #[true, true, true, true, true, true, true, true, true, true, true, true, true, true, true, true, false, false, false, false, false, false, false, false, false] rfl rfl (take_ofW HT_.out HW_.out (by kernel_rfl)) (fun _ _ _ h => h) (Or.inl ⟨by rfl, ?_⟩) hHeld ?_ ?_
        rotate_left
        · rintro w' ⟨s0, s1, s2, s3, s4, s5, s6, s7, s8, s9⟩
          go_simp
          with_reducible rfl
        rotate_left
        · simp only [Act.put, List.setIfInBounds_toArray, List.set_cons_zero, List.set_cons_succ, i64_w, i32_w]
          rfl
        refine pure_ (i := 16) (N := some 55) (v := ?_) (a' := ?_) #[true, true, true, true, true, true, true, true, true, true, true, true, true, true, true, true, true, false, false, false, false, false, false, false, false] rfl rfl (any_of HT_.out (by kernel_rfl)) (fun _ _ _ h => h) (Or.inl ⟨by rfl, ?_⟩) ?_ ?_
        rotate_left
        · intro w'
          go_simp
          with_reducible rfl
        rotate_left
        · simp only [Act.put, List.setIfInBounds_toArray, List.set_cons_zero, List.set_cons_succ, i64_w, i32_w]
          rfl
        refine take_ (i := 19) (N := some 58) (v := ?_) (a' := ?_) #[true, true, true, true, true, true, true, true, true, true, true, true, true, true, true, true, true, false, false, true, false, false, false, false, false] rfl rfl (take_ofW HT_.out HW_.out (by kernel_rfl)) (fun _ _ _ h => h) (Or.inl ⟨by rfl, ?_⟩) hHeld ?_ ?_
        rotate_left
        · rintro w' ⟨s0, s1, s2, s3, s4, s5, s6, s7, s8, s9⟩
          go_simp
          with_reducible rfl
        rotate_left
        · simp only [Act.put, List.setIfInBounds_toArray, List.set_cons_zero, List.set_cons_succ, i64_w, i32_w]
          rfl
        refine pure_ (i := 20) (N := some 59) (v := ?_) (a' := ?_) #[true, true, true, true, true, true, true, true, true, true, true, true, true, true, true, true, true, false, false, true, true, false, false, false, false] rfl rfl (any_of HT_.out (by kernel_rfl)) (fun _ _ _ h => h) (Or.inl ⟨by rfl, ?_⟩) ?_ ?_
        rotate_left
        · intro w'
          go_simp
          with_reducible rfl
        rotate_left
        · simp only [Act.put, List.setIfInBounds_toArray, List.set_cons_zero, List.set_cons_succ, i64_w, i32_w]
          rfl
        refine one_ (i := 17) (N := some 56) #[true, true, true, true, true, true, true, true, true, true, true, true, true, true, true, true, true, true, false, true, true, false, false, false, false] rfl rfl (one_of HT_.out (by kernel_rfl)) (by decide) (fun K hK => ?_)
        refine goes_ Tryd.func36 (by kernel_rfl) rfl #[.slice W4 ws.length q4] (by rfl) rfl rfl (by (try simp only [List.map_toArray, List.map_cons, List.map_nil]); first | done | rfl) ?_
        refine (caesuralaw11_back.calls kb W4 q4 ws wb _ HS.out.w0 HW.out HG.out.bk).mono ?_
        rintro e wm ⟨vb, rfl, kb0, hb⟩
        refine ⟨_, rfl, ?_⟩
        obtain ⟨V4, u4, rfl, hu4, y4⟩ := Kd.R_reads kb0
        have HZ := Aside0.mk y4
        clear kb0 y4 hu4
        replace HS := Aside0.mk (HS.out.step hb)
        obtain ⟨wn, rfl⟩ : ∃ wn, wn = wm := ⟨_, rfl⟩
        refine hK.out _ _ HS.out.held (fun hHeld => ?_)
        clear hK K hb
        refine norm_ (a' := ?_) ?_ ?_
        rotate_left
        · show Act.put _ (some 56) _ = _
          simp only [Act.put, List.setIfInBounds_toArray, List.set_cons_zero, List.set_cons_succ, i64_w, i32_w]
          rfl
        refine one_ (i := 18) (N := some 57) #[true, true, true, true, true, true, true, true, true, true, true, true, true, true, true, true, true, true, true, true, true, false, false, false, false] rfl rfl (one_of HT_.out (by kernel_rfl)) (by decide) (fun K hK => ?_)
        refine goes_ Tryd.func23 (by kernel_rfl) rfl #[.agg #[.slice E0 L.length e0, .slice E1 La.length e1, .slice E2 F.length e2, .slice E3 (turnK Fo L.length L.length).length e3, .bool b], .slice V4 wb.length u4] (by rfl) rfl rfl (by (try simp only [List.map_toArray, List.map_cons, List.map_nil]); first | done | rfl) ?_
        refine (match_calls E0 e0 L E1 e1 La E2 e2 F E3 e3 (turnK Fo L.length L.length) b V4 u4 wb _ ⟨HS.out.r0, HR.out.1⟩ ⟨HS.out.r1, HR.out.2.1⟩ ⟨HS.out.r2, HR.out.2.2.1⟩ ⟨HS.out.r3, HR.out.2.2.2⟩ HZ.out (by have := HG.out.t4; have := HG.out.s8; omega) (by have := HG.out.s8; omega)).mono ?_
        rintro e wm ⟨rfl, hb⟩
        refine ⟨_, rfl, ?_⟩
        rw [HG.out.m]
        replace HS := Aside0.mk (HS.out.step hb)
        obtain ⟨wn, rfl⟩ : ∃ wn, wn = wm := ⟨_, rfl⟩
        refine hK.out _ _ HS.out.held (fun hHeld => ?_)
        clear hK K hb
        refine norm_ (a' := ?_) ?_ ?_
        rotate_left
        · show Act.put _ (some 57) _ = _
          simp only [Act.put, List.setIfInBounds_toArray, List.set_cons_zero, List.set_cons_succ, i64_w, i32_w]
          rfl
        refine one_ (i := 21) (N := some 60) #[true, true, true, true, true, true, true, true, true, true, true, true, true, true, true, true, true, true, true, true, true, true, false, false, false] rfl rfl (one_of HT_.out (by kernel_rfl)) (by decide) (fun K hK => ?_)
        refine goes_ Tryd.func23 (by kernel_rfl) rfl #[.agg #[.slice B0 L.length d0, .slice B1 F.length d1, .slice B2 La.length d2, .slice B3 Fo.length d3, .bool b], .slice W4 ws.length q4] (by rfl) rfl rfl (by (try simp only [List.map_toArray, List.map_cons, List.map_nil]); first | done | rfl) ?_
        refine (match_calls B0 d0 L B1 d1 F B2 d2 La B3 d3 Fo b W4 q4 ws _ ⟨HS.out.p0, HP.out.1⟩ ⟨HS.out.p1, HP.out.2.1⟩ ⟨HS.out.p2, HP.out.2.2.1⟩ ⟨HS.out.p3, HP.out.2.2.2⟩ HS.out.w0 (by have := HG.out.t1; have := HG.out.s8; omega) (by have := HG.out.s8; omega)).mono ?_
        rintro e wm ⟨rfl, hb⟩
        refine ⟨_, rfl, ?_⟩
        generalize matchB L F La Fo b ws = mm
        replace HS := Aside0.mk (HS.out.step hb)
        obtain ⟨wn, rfl⟩ : ∃ wn, wn = wm := ⟨_, rfl⟩
        refine hK.out _ _ HS.out.held (fun hHeld => ?_)
        clear hK K hb
        refine norm_ (a' := ?_) ?_ ?_
        rotate_left
        · show Act.put _ (some 60) _ = _
          simp only [Act.put, List.setIfInBounds_toArray, List.set_cons_zero, List.set_cons_succ, i64_w, i32_w]
          rfl
        refine pure_ (i := 22) (N := some 61) (v := ?_) (a' := ?_) #[true, true, true, true, true, true, true, true, true, true, true, true, true, true, true, true, true, true, true, true, true, true, true, false, false] rfl rfl (any_of HT_.out (by kernel_rfl)) (fun _ _ _ h => h) (Or.inl ⟨by rfl, ?_⟩) ?_ ?_
        rotate_left
        · intro w'
          go_simp
          with_reducible rfl
        rotate_left
        · simp only [Act.put, List.setIfInBounds_toArray, List.set_cons_zero, List.set_cons_succ, i64_w, i32_w]
          rfl
        refine pure_ (i := 23) (N := some 62) (v := ?_) (a' := ?_) #[true, true, true, true, true, true, true, true, true, true, true, true, true, true, true, true, true, true, true, true, true, true, true, true, false] rfl rfl (any_of HT_.out (by kernel_rfl)) (fun _ _ _ h => h) (Or.inl ⟨by rfl, ?_⟩) ?_ ?_
        rotate_left
        · intro w'
          go_simp
          with_reducible rfl
        rotate_left
        · simp only [Act.put, List.setIfInBounds_toArray, List.set_cons_zero, List.set_cons_succ, i64_w, i32_w]
          rfl
        refine pure_ (i := 24) (N := some 2) (v := ?_) (a' := ?_) #[true, true, true, true, true, true, true, true, true, true, true, true, true, true, true, true, true, true, true, true, true, true, true, true, true] rfl rfl (any_of HT_.out (by kernel_rfl)) (fun _ _ _ h => h) (Or.inl ⟨by rfl, ?_⟩) ?_ ?_
        rotate_left
        · intro w'
          go_simp
          with_reducible rfl
        rotate_left
        · simp only [Act.put, List.setIfInBounds_toArray, List.set_cons_zero, List.set_cons_succ, i64_w, i32_w]
          rfl
        refine done_ (done_of HT_.out (by kernel_rfl)) ?_
        go_wp2
        go_ret
        exact ⟨rfl, HS.out.below⟩
end Go.Proofs.YtfonajakaimnoaaDoor.C11
