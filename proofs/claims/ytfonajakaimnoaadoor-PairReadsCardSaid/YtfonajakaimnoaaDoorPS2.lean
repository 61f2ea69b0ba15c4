/- Part of a proof: texts of one seat, one behind the other. -/
import Derived.Test.YtfonajakaimnoaaDoorPS1

namespace Go.Proofs.YtfonajakaimnoaaDoor.C14
open Go.RowKit Go.Proofs.YtfonajakaimnoaaDoorW.PrintWords Go.Proofs.YtfonajakaimnoaaDoorW.PrintLast Go.Proofs.YtfonajakaimnoaaDoorW.PrintMore Go.Proofs.YtfonajakaimnoaaDoor.Lib Lent Go.Proofs.YtfonajakaimnoaaDoor.Fn Go.Proofs.YtfonajakaimnoaaDoor.C11
set_option linter.unusedVariables false
set_option linter.unusedSimpArgs false
def runL (N : LL) : Int → List Int → List Int
 | s, [] => [s]
 | s, c :: r => s :: runL N (rd (rd_L1 N s) c) r
theorem runL_head (N : LL) (s : Int) (w : List Int) : runL N s w = s :: (runL N s w).tail := by
 cases w <;> rfl
theorem runL_len (N : LL) (w : List Int) : ∀ s : Int, (runL N s w).length = w.length + 1 := by
 induction w with
 | nil => intro s; rfl
 | cons c r ih => intro s; simp only [runL, List.length_cons, ih]
structure Gd (N : LL) (sy : Nat) : Prop where
 rows : ∀ i, (h : i < N.length) → N[i].length = sy
 ins : ∀ i, (h : i < N.length) → ∀ x ∈ N[i], 0 ≤ x ∧ x < (N.length : Int)
theorem inB_iff {n : Nat} {x : Int} (h : inB n x = true) : 0 ≤ x ∧ x < (n : Int) := by
 unfold inB at h
 simp at h
 omega
theorem gd_of {s : Int} {N O : LL} {sy pt : Int} (h : mokB s N O sy pt = true) : ∃ n : Nat, sy = n ∧ Gd N n ∧ 0 ≤ s ∧ s < N.length ∧ O.length = N.length ∧ N.length ≤ 16384 ∧ (∀ i, (hi : i < O.length) → risesB pt (-1) O[i] = true) := by
 unfold mokB at h
 rw [Bool.and_eq_true, Bool.not_eq_true'] at h
 obtain ⟨hh, hr⟩ := h
 obtain ⟨e1, e2, e3, e4, e5, e6, e7, e8⟩ := head_len hh
 rw [List.all_eq_true] at hr
 have hrow : ∀ i, (h : i < N.length) → (hO : i < O.length) → rowB N.length sy pt (N[i], O[i]) = true := fun i h hO => hr _ (List.mem_iff_getElem.mpr ⟨i, by simp; omega, by rw [List.getElem_zip]⟩)
 refine ⟨sy.toNat, by omega, ⟨fun i hi => ?_, fun i hi x hx => ?_⟩, e7, e8, e1, e3, fun i hi => ?_⟩
 ·have := hrow i hi (by omega)
  unfold rowB at this
  simp only [Bool.and_eq_true, decide_eq_true_eq] at this
  omega
 ·have := hrow i hi (by omega)
  unfold rowB at this
  simp only [Bool.and_eq_true, decide_eq_true_eq, List.all_eq_true] at this
  exact inB_iff (this.2.1 x hx)
 ·have := hrow i (by omega) hi
  unfold rowB at this
  simp only [Bool.and_eq_true, decide_eq_true_eq, List.all_eq_true] at this
  exact this.2.2
section
variable {N O : LL} {sy : Nat} {word : List Int} {s : Int}
theorem Gd.next (h : Gd N sy) {a c : Int} (a0 : 0 ≤ a) (a1 : a < N.length) (c0 : 0 ≤ c) (c1 : c < sy) : ((rd_L1 N a).length : Int) = sy ∧ 0 ≤ rd (rd_L1 N a) c ∧ rd (rd_L1 N a) c < N.length := by
 obtain ⟨a, rfl⟩ : ∃ n : Nat, a = n := ⟨a.toNat, by omega⟩
 obtain ⟨c, rfl⟩ : ∃ n : Nat, c = n := ⟨c.toNat, by omega⟩
 have ha : a < N.length := by omega
 have hl := h.rows a ha
 rw [row_at ha]
 have hc : c < N[a].length := by omega
 rw [rd_at _ c hc]
 exact ⟨by omega, h.ins a ha _ (List.getElem_mem hc)⟩
theorem runL_in (h : Gd N sy) (w : List Int) : ∀ s : Int, 0 ≤ s → s < N.length → (∀ c ∈ w, 0 ≤ c ∧ c < (sy : Int)) → ∀ x ∈ runL N s w, 0 ≤ x ∧ x < (N.length : Int) := by
 induction w with
 | nil => intro s h0 h1 _ x hx; simp [runL] at hx; omega
 | cons c r ih =>
  intro s h0 h1 hw x hx
  obtain ⟨_, n1, n2⟩ := h.next h0 h1 (hw c (List.mem_cons_self ..)).1 (hw c (List.mem_cons_self ..)).2
  simp only [runL, List.mem_cons] at hx
  rcases hx with rfl | hx
  ·exact ⟨h0, h1⟩
  ·exact ih _ n1 n2 (fun c hc => hw c (List.mem_cons_of_mem _ hc)) x hx
theorem m_run_ev (h : Gd N sy) (s0 : 0 ≤ s) (s1 : s < N.length) (hw : ∀ c ∈ word, 0 ≤ c ∧ c < (sy : Int)) (hl : word.length ≤ 17592186044400) :
  Ev (fun k => machine_Run.f k s N O word) (runL N s word, 0) := by
 have key : ∀ (d i : Nat) (a : Int) (out : List Int), i ≤ word.length → word.length - i = d → 0 ≤ a → a < N.length → out.length = i + 1 → Ev (fun k => machine_Run.l0 k a out word word.length i s N O) (out ++ (runL N a (word.drop i)).tail, 0) := by
  intro d
  induction d with
  | zero =>
   intro i a out hi hd a0 a1 ho
   rw [List.drop_of_length_le (by omega)]
   refine Ev.step (f := fun _ => some (out, 0)) (fun k => ?_) (by rw [show (runL N a []).tail = [] from rfl, List.append_nil]; exact Ev.now _)
   conv => lhs; unfold machine_Run.l0
   rw [if_neg (by omega)]
  | succ d ih =>
   intro i a out hi hd a0 a1 ho
   have hil : i < word.length := by omega
   obtain ⟨c0, c1⟩ := hw _ (List.getElem_mem hil)
   obtain ⟨n0, n1, n2⟩ := h.next a0 a1 c0 c1
   have hnext := ih (i + 1) (rd (rd_L1 N a) word[i]) (out ++ [rd (rd_L1 N a) word[i]]) (by omega) (by omega) n1 n2 (by simp; omega)
   have e : out ++ (runL N a (word.drop i)).tail = out ++ [rd (rd_L1 N a) word[i]] ++ (runL N (rd (rd_L1 N a) word[i]) (word.drop (i + 1))).tail := by
    rw [List.drop_eq_getElem_cons hil]
    simp only [runL, List.tail_cons, List.append_assoc, List.singleton_append]
    rw [← runL_head]
   rw [e]
   have hw := wsucc hil (by omega)
   rw [← hw] at hnext
   clear hw e
   have hj : Ev (fun k => machine_Run.j2 k a out word[i] word word.length i false s N O) (out ++ [rd (rd_L1 N a) word[i]] ++ (runL N (rd (rd_L1 N a) word[i]) (word.drop (i + 1))).tail, 0) := by
    refine Ev.step (fun k => ?_) hnext
    conv => lhs; unfold machine_Run.j2
    rw [if_neg (by decide), if_pos a0, if_pos a1, if_pos c0, if_pos (by omega), if_neg (by omega), if_neg (by omega), if_pos (by omega)]
   refine Ev.step (fun k => ?_) hj
   conv => lhs; unfold machine_Run.l0
   rw [if_pos (by omega), if_pos (by omega), if_pos (by omega), rd_at word i hil, if_neg (by omega), if_pos a0, if_pos a1, decide_eq_false (by omega)]
 have h0 := key word.length 0 s [s] (by omega) (by omega) s0 s1 rfl
 rw [List.drop_zero, List.singleton_append, ← runL_head] at h0
 have hj : Ev (fun k => machine_Run.j0 k word s false s N O) (runL N s word, 0) := by
  refine Ev.step (fun k => ?_) h0
  simp only [machine_Run.j0]
  rw [if_neg (by decide), if_pos (by decide)]
  rfl
 refine Ev.congr (fun k => ?_) hj
 unfold machine_Run.f
 rw [if_neg (by omega), decide_eq_false (by omega)]
theorem d_run_ev (h : Gd N sy) (s0 : 0 ≤ s) (s1 : s < N.length) (hw : ∀ c ∈ word, 0 ≤ c ∧ c < (sy : Int)) (hl : word.length ≤ 17592186044400) :
  Ev (fun k => caesuraref12_Run.f k s N O word) (runL N s word, 0) := by
 have key : ∀ (d i : Nat) (a : Int) (out : List Int), i ≤ word.length → word.length - i = d → 0 ≤ a → a < N.length → out.length = i + 1 → Ev (fun k => caesuraref12_Run.l0 k word a out i s N O) (out ++ (runL N a (word.drop i)).tail, 0) := by
  intro d
  induction d with
  | zero =>
   intro i a out hi hd a0 a1 ho
   rw [List.drop_of_length_le (by omega)]
   refine Ev.step (f := fun _ => some (out, 0)) (fun k => ?_) (by rw [show (runL N a []).tail = [] from rfl, List.append_nil]; exact Ev.now _)
   conv => lhs; unfold caesuraref12_Run.l0
   rw [if_neg (by omega)]
  | succ d ih =>
   intro i a out hi hd a0 a1 ho
   have hil : i < word.length := by omega
   obtain ⟨c0, c1⟩ := hw _ (List.getElem_mem hil)
   obtain ⟨n0, n1, n2⟩ := h.next a0 a1 c0 c1
   have hnext := ih (i + 1) (rd (rd_L1 N a) word[i]) (out ++ [rd (rd_L1 N a) word[i]]) (by omega) (by omega) n1 n2 (by simp; omega)
   have e : out ++ (runL N a (word.drop i)).tail = out ++ [rd (rd_L1 N a) word[i]] ++ (runL N (rd (rd_L1 N a) word[i]) (word.drop (i + 1))).tail := by
    rw [List.drop_eq_getElem_cons hil]
    simp only [runL, List.tail_cons, List.append_assoc, List.singleton_append]
    rw [← runL_head]
   rw [e]
   have hw := wsucc hil (by omega)
   rw [← hw] at hnext
   clear hw e
   have hj : Ev (fun k => caesuraref12_Run.j2 k word a out i false s N O) (out ++ [rd (rd_L1 N a) word[i]] ++ (runL N (rd (rd_L1 N a) word[i]) (word.drop (i + 1))).tail, 0) := by
    refine Ev.step (fun k => ?_) hnext
    conv => lhs; unfold caesuraref12_Run.j2
    rw [if_neg (by decide), if_pos a0, if_pos a1, if_pos (by omega), if_pos (by omega), rd_at word i hil, if_pos c0, if_pos (by omega), if_neg (by omega), if_neg (by omega), if_pos (by omega)]
   refine Ev.step (fun k => ?_) hj
   conv => lhs; unfold caesuraref12_Run.l0
   rw [if_pos (by omega), if_pos (by omega), rd_at word i hil, if_neg (by omega), if_pos a0, if_pos a1, decide_eq_false (by omega)]
 have h0 := key word.length 0 s [s] (by omega) (by omega) s0 s1 rfl
 rw [List.drop_zero, List.singleton_append, ← runL_head] at h0
 have hj : Ev (fun k => caesuraref12_Run.j0 k word s false s N O) (runL N s word, 0) := by
  refine Ev.step (fun k => ?_) h0
  rfl
 refine Ev.congr (fun k => ?_) hj
 unfold caesuraref12_Run.f
 rw [if_neg (by omega), decide_eq_false (by omega)]
end
end Go.Proofs.YtfonajakaimnoaaDoor.C14

namespace Go.Proofs.YtfonajakaimnoaaDoor.Lib
open Go.RowKit Go.Proofs.YtfonajakaimnoaaDoorW.PrintWords Go.Proofs.YtfonajakaimnoaaDoorW.PrintLast Go.Proofs.YtfonajakaimnoaaDoorW.PrintMore
attribute [local go_sem] max2_int min2_int max_two min_two max_three min_three max_four min_four   -- for this text's walks alone
set_option linter.unusedVariables false
set_option linter.unusedSimpArgs false
mutual
def pair_both.l0 : Nat → List Int → List Int → Option (Int)
 | 0, _, _ => none
 | k + 1, x0, x1 => if (x0.length : Int) > 0 then (pair_both.j1 k x0 x1 (decide ((x1.length : Int) > 0))) else (pair_both.j1 k x0 x1 false)
def pair_both.j1 : Nat → List Int → List Int → Bool → Option (Int)
 | 0, _, _, _ => none
 | k + 1, x0, x1, x13 => if x13 = true then (if 0 < (x0.length : Int) then (if 0 < (x1.length : Int) then (if (rd x0 0) = (rd x1 0) then (some (mx (rd x0 0) (rd x1 0))) else (if (rd x0 0) < (mx (rd x0 0) (rd x1 0)) then (if 1 ≤ (x0.length : Int) then (pair_both.l0 k (x0.drop 1) x1) else (none)) else (if 1 ≤ (x1.length : Int) then (pair_both.l0 k x0 (x1.drop 1)) else (none)))) else (none)) else (none)) else (some (-1))
end
def pair_both.f (k : Nat) (l0 : List Int) (l1 : List Int) : Option (Int) := pair_both.l0 k l0 l1
set_option maxHeartbeats 8000000 in
set_option maxRecDepth 100000 in
theorem pair_both.calls (k : Nat) (P0_ : Nat → Prop) (A0 : Option Addr) (c0 : Nat) (l0 : List Int) (P1_ : Nat → Prop) (A1 : Option Addr) (c1 : Nat) (l1 : List Int) (r : Int) (w : World) (hs0 : Kd.V (Kd.int .i64) 3 w w.heap.size (fun k_ => P0_ k_) (.slice A0 l0.length c0) l0) (hs1 : Kd.V (Kd.int .i64) 3 w w.heap.size (fun k_ => P1_ k_) (.slice A1 l1.length c1) l1) (h : pair_both.f k l0 l1 = some r) :
  Calls Tryd.prog 96 #[.slice A0 l0.length c0, .slice A1 l1.length c1] w fun e w' => e = .returned (.int .i64 r) ∧ Below w.heap.size w w' := by
 have HO0 := Aside0.mk (show Kd.V (Kd.int .i64) 3 w w.heap.size (fun k_ => ((P0_ k_ ∨ P1_ k_) ∨ w.heap.size ≤ k_)) (.slice A0 l0.length c0) l0 from Kd.V_mono hs0 (fun k_ hk => .inl (.inl hk)))
 have HO1 := Aside0.mk (show Kd.V (Kd.int .i64) 3 w w.heap.size (fun k_ => ((P0_ k_ ∨ P1_ k_) ∨ w.heap.size ≤ k_)) (.slice A1 l1.length c1) l1 from Kd.V_mono hs1 (fun k_ hk => .inl (.inr hk)))
 have HB := Aside0.mk (Below.refl w.heap.size w)
 have H : (pair_both.l0 k l0 l1) = some r := h
 clear h
 have H' := Aside0.mk H
 clear H
 go_enter Tryd.func96, Tryd.ntmps96
 go_wp2
 repeat (go_quiet (fail); try go_wp2)
 go_loopg [0, 1] k (fun kq v0 v1 w' => ∃ (x0_1 : List Int) (x1_1 : List Int), Aside0 (pair_both.l0 kq x0_1 x1_1 = some r) ∧ Aside0 (kq ≤ k) ∧ Aside0 (Kd.V (Kd.int .i64) 3 w' w.heap.size (fun k_ => ((P0_ k_ ∨ P1_ k_) ∨ w.heap.size ≤ k_)) v0 x0_1) ∧ Aside0 (Kd.V (Kd.int .i64) 3 w' w.heap.size (fun k_ => ((P0_ k_ ∨ P1_ k_) ∨ w.heap.size ≤ k_)) v1 x1_1) ∧ Aside0 (Below w.heap.size w w'))
 case atStart => exact ⟨(l0), (l1), H', ⟨Nat.le_refl _⟩, ⟨by (with_reducible repeat (first | apply Kd.V_alloc | apply Kd.V_drewN | apply Kd.V_drew)); exact HO0.out⟩, ⟨by (with_reducible repeat (first | apply Kd.V_alloc | apply Kd.V_drewN | apply Kd.V_drew)); exact HO1.out⟩, ⟨by repeat (first | (with_reducible first | exact HB.out | apply below_alloc | apply pw_below_drewN | apply below_drew1) | exact HB.out)⟩⟩
 case round =>
  clear H'
  try clear c1
  try clear p2
  obtain ⟨x0_1, x1_1, HA, HK1, HO_0, HO_1, HB⟩ := hrel
  cases gk with
  | zero => exact absurd HA.out (by simp [pair_both.l0])
  | succ k1 =>
   have H := HA.out
   clear HA
   simp only [pair_both.l0] at H
   have HC3 := Aside0.mk H
   clear H
   go_upto_region 1 with (fail)
   repeat (go_quiet (fail); go_upto_region 1 with (fail))
   go_cut [13] (fun v13 wc => ∃ (kq : Nat) (x13_2 : Bool), v13 = .bool x13_2 ∧ Aside0 (pair_both.j1 kq x0_1 x1_1 x13_2 = some r) ∧ Aside0 (kq ≤ k1) ∧ Aside0 (Kd.V (Kd.int .i64) 3 wc w.heap.size (fun k_ => ((P0_ k_ ∨ P1_ k_) ∨ w.heap.size ≤ k_)) u0 x0_1) ∧ Aside0 (Kd.V (Kd.int .i64) 3 wc w.heap.size (fun k_ => ((P0_ k_ ∨ P1_ k_) ∨ w.heap.size ≤ k_)) u1 x1_1) ∧ Aside0 (Below w.heap.size w wc))
   case first =>
    have H := HC3.out
    clear HC3
    by_cases c4 : (x0_1.length : Int) > 0
    ·rw [if_pos c4] at H
     have c4b0 : decide (0 < (x0_1.length : Int)) = true := decide_eq_true c4
     have c4b1 : decide (0 < x0_1.length) = true := decide_eq_true (by omega)
     clear c4
     (first | rw [c4b0] | (simp only [i64_w, i32_w]; rw [c4b0]) | skip)
     have H' := Aside0.mk H
     clear H
     obtain ⟨Ao5, co5, eo5⟩ := Kd.V_slice HO_0.out
     subst eo5
     obtain ⟨Ao6, co6, eo6⟩ := Kd.V_slice HO_1.out
     subst eo6
     go_wp2
     repeat (go_quiet (fail); try go_wp2)
     go_meet
     case rel => exact ⟨_, (decide ((x1_1.length : Int) > 0)), (by first | rfl | (simp; done) | (simp [*]; done)), H', ⟨by have := HK1.out; first | omega | exact Nat.le_refl _⟩, ⟨by (with_reducible repeat (first | apply Kd.V_alloc | apply Kd.V_drewN | apply Kd.V_drew)); exact HO_0.out⟩, ⟨by (with_reducible repeat (first | apply Kd.V_alloc | apply Kd.V_drewN | apply Kd.V_drew)); exact HO_1.out⟩, ⟨by repeat (first | (with_reducible first | exact HB.out | apply below_alloc | apply pw_below_drewN | apply below_drew1) | exact HB.out)⟩⟩
    ·rw [if_neg c4] at H
     have c4b0 : decide (0 < (x0_1.length : Int)) = false := decide_eq_false c4
     have c4b1 : decide (0 < x0_1.length) = false := decide_eq_false (by omega)
     clear c4
     (first | rw [c4b0] | (simp only [i64_w, i32_w]; rw [c4b0]) | skip)
     have H' := Aside0.mk H
     clear H
     obtain ⟨Ao7, co7, eo7⟩ := Kd.V_slice HO_0.out
     subst eo7
     go_wp2
     repeat (go_quiet (fail); try go_wp2)
     go_meet
     case rel => exact ⟨_, (false), (by first | rfl | (simp; done) | (simp [*]; done)), H', ⟨by have := HK1.out; first | omega | exact Nat.le_refl _⟩, ⟨by (with_reducible repeat (first | apply Kd.V_alloc | apply Kd.V_drewN | apply Kd.V_drew)); exact HO_0.out⟩, ⟨by (with_reducible repeat (first | apply Kd.V_alloc | apply Kd.V_drewN | apply Kd.V_drew)); exact HO_1.out⟩, ⟨by repeat (first | (with_reducible first | exact HB.out | apply below_alloc | apply pw_below_drewN | apply below_drew1) | exact HB.out)⟩⟩
   case rest =>
    clear HC3
    try clear c1
    try clear p2
    try clear c4
    try clear c4b0
    try clear c4b1
    try clear p2
    obtain ⟨kq, x13_2, rfl, HA, HJ2, HO_0, HO_1, HB⟩ := hcut
    cases kq with
    | zero => exact absurd HA.out (by simp [pair_both.j1])
    | succ kj2 =>
     have H := HA.out
     clear HA
     simp only [pair_both.j1] at H
     by_cases c8 : x13_2 = true
     ·subst c8
      have H1 : (if 0 < (x0_1.length : Int) then (if 0 < (x1_1.length : Int) then (if (rd x0_1 0) = (rd x1_1 0) then (some (mx (rd x0_1 0) (rd x1_1 0))) else (if (rd x0_1 0) < (mx (rd x0_1 0) (rd x1_1 0)) then (if 1 ≤ (x0_1.length : Int) then (pair_both.l0 kj2 (x0_1.drop 1) x1_1) else (none)) else (if 1 ≤ (x1_1.length : Int) then (pair_both.l0 kj2 x0_1 (x1_1.drop 1)) else (none)))) else (none)) else (none)) = some r := by rw [if_pos rfl] at H; exact H
      clear H
      have H := H1
      clear H1
      by_cases c9 : 0 < (x0_1.length : Int)
      ·rw [if_pos c9] at H
       have c9b0 : decide (0 < (x0_1.length : Int)) = true := decide_eq_true c9
       have c9b1 : decide (0 < x0_1.length) = true := decide_eq_true (by omega)
       clear c9
       by_cases c10 : 0 < (x1_1.length : Int)
       ·rw [if_pos c10] at H
        have c10b0 : decide (0 < (x1_1.length : Int)) = true := decide_eq_true c10
        have c10b1 : decide (0 < x1_1.length) = true := decide_eq_true (by omega)
        clear c10
        obtain ⟨ji11, hji11⟩ : ∃ j_ : Int, (mx (rd x0_1 0) (rd x1_1 0)) = j_ := ⟨_, rfl⟩
        replace H : (if (rd x0_1 0) = (rd x1_1 0) then (some ji11) else (if (rd x0_1 0) < (ji11) then (if 1 ≤ (x0_1.length : Int) then (pair_both.l0 kj2 (x0_1.drop 1) x1_1) else (none)) else (if 1 ≤ (x1_1.length : Int) then (pair_both.l0 kj2 x0_1 (x1_1.drop 1)) else (none)))) = some r := by first | (rw [hji11] at H; exact H) | (simp only [hji11] at H ⊢; exact H)
        have hji11_ : (if (rd x0_1 0) < (rd x1_1 0) then (rd x1_1 0) else (rd x0_1 0)) = ji11 := hji11
        by_cases c12 : (rd x0_1 0) = (rd x1_1 0)
        ·rw [if_pos c12] at H
         have c12b0 : ((rd x0_1 0) == (rd x1_1 0)) = true := beq_iff_eq.mpr c12
         have c12b1 : ((rd x0_1 0) != (rd x1_1 0)) = false := bne_eq_false_iff_eq.mpr c12
         clear c12
         obtain rfl := Option.some.inj H
         obtain ⟨Ao13, co13, eo13⟩ := Kd.V_slice HO_0.out
         subst eo13
         have p539 : 0 ≤ (0 : Int) := (by omega)
         have q539 : 0 < (x0_1.length : Int) := of_decide_eq_true (by first | (with_reducible assumption) | assumption)
         obtain ⟨ad539, e539, hx539_0⟩ := Kd.at_int (Kd.V_reads' HO_0.out).2.2 0 p539 q539
         cases e539
         have qi539 : (0 < x0_1.length) = True := eq_true (by omega)
         (try rw [show ((0 : Int)).toNat = 0 from rfl] at hx539_0)
         (try rw [Addr.add_zero'] at hx539_0)
         replace p539 := eq_true p539
         replace q539 := eq_true q539
         obtain ⟨Ao14, co14, eo14⟩ := Kd.V_slice HO_1.out
         subst eo14
         have p540 : 0 ≤ (0 : Int) := (by omega)
         have q540 : 0 < (x1_1.length : Int) := of_decide_eq_true (by first | (with_reducible assumption) | assumption)
         obtain ⟨ad540, e540, hx540_0⟩ := Kd.at_int (Kd.V_reads' HO_1.out).2.2 0 p540 q540
         cases e540
         have qi540 : (0 < x1_1.length) = True := eq_true (by omega)
         (try rw [show ((0 : Int)).toNat = 0 from rfl] at hx540_0)
         (try rw [Addr.add_zero'] at hx540_0)
         replace p540 := eq_true p540
         replace q540 := eq_true q540
         have p541 : 0 ≤ (0 : Int) := (by omega)
         have q541 : 0 < (x0_1.length : Int) := of_decide_eq_true (by first | (with_reducible assumption) | assumption)
         obtain ⟨ad541, e541, hx541_0⟩ := Kd.at_int (Kd.V_reads' HO_0.out).2.2 0 p541 q541
         obtain rfl : ad539 = ad541 := (by injection e541)
         have qi541 : (0 < x0_1.length) = True := eq_true (by omega)
         (try rw [show ((0 : Int)).toNat = 0 from rfl] at hx541_0)
         (try rw [Addr.add_zero'] at hx541_0)
         replace p541 := eq_true p541
         replace q541 := eq_true q541
         have p542 : 0 ≤ (0 : Int) := (by omega)
         have q542 : 0 < (x1_1.length : Int) := of_decide_eq_true (by first | (with_reducible assumption) | assumption)
         obtain ⟨ad542, e542, hx542_0⟩ := Kd.at_int (Kd.V_reads' HO_1.out).2.2 0 p542 q542
         obtain rfl : ad540 = ad542 := (by injection e542)
         have qi542 : (0 < x1_1.length) = True := eq_true (by omega)
         (try rw [show ((0 : Int)).toNat = 0 from rfl] at hx542_0)
         (try rw [Addr.add_zero'] at hx542_0)
         replace p542 := eq_true p542
         replace q542 := eq_true q542
         go_wp2
         repeat (go_quiet (fail); try go_wp2)
         go_ret
         exact ⟨by first | rfl | (simp [errW_none, errW_some] <;> rfl) | (simp only [← hji11]; first | rfl | (simp [errW_none, errW_some] <;> rfl)) | (simp [*, errW_none, errW_some] <;> rfl), by repeat (first | (with_reducible first | exact HB.out | apply below_alloc | apply pw_below_drewN | apply below_drew1) | exact HB.out)⟩
        ·rw [if_neg c12] at H
         have c12b0 : ((rd x0_1 0) == (rd x1_1 0)) = false := beq_eq_false_iff_ne.mpr c12
         have c12b1 : ((rd x0_1 0) != (rd x1_1 0)) = true := bne_iff_ne.mpr c12
         by_cases c15 : (rd x0_1 0) < (ji11)
         ·rw [if_pos c15] at H
          have c15b0 : decide ((rd x0_1 0) < (ji11)) = true := decide_eq_true c15
          clear c15
          by_cases c16 : 1 ≤ (x0_1.length : Int)
          ·rw [if_pos c16] at H
           have c16b0 := eq_true c16
           have c16b1 : decide (1 ≤ (x0_1.length : Int)) = true := decide_eq_true c16
           clear c16
           obtain ⟨y544, hy544⟩ : ∃ y_ : List Int, y_ = (x0_1.drop 1) := ⟨_, rfl⟩
           replace H : (pair_both.l0 kj2 y544 x1_1) = some r := by first | (rw [hy544]; with_reducible exact H) | (have H2_ := (Option.bind_some _ _).symm.trans H; rw [hy544]; with_reducible exact H2_) | (have H2_ := (Option.bind_some _ _).symm.trans H; with_reducible exact H2_) | with_reducible exact H | (rw [hy544]; exact H) | exact H
           have Ny544 := Aside0.mk hy544
           clear hy544
           have H' := Aside0.mk H
           clear H
           obtain ⟨Ao17, co17, eo17⟩ := Kd.V_slice HO_0.out
           subst eo17
           have p539 : 0 ≤ (0 : Int) := (by omega)
           have q539 : 0 < (x0_1.length : Int) := of_decide_eq_true (by first | (with_reducible assumption) | assumption)
           obtain ⟨ad539, e539, hx539_0⟩ := Kd.at_int (Kd.V_reads' HO_0.out).2.2 0 p539 q539
           cases e539
           have qi539 : (0 < x0_1.length) = True := eq_true (by omega)
           (try rw [show ((0 : Int)).toNat = 0 from rfl] at hx539_0)
           (try rw [Addr.add_zero'] at hx539_0)
           replace p539 := eq_true p539
           replace q539 := eq_true q539
           obtain ⟨Ao18, co18, eo18⟩ := Kd.V_slice HO_1.out
           subst eo18
           have p540 : 0 ≤ (0 : Int) := (by omega)
           have q540 : 0 < (x1_1.length : Int) := of_decide_eq_true (by first | (with_reducible assumption) | assumption)
           obtain ⟨ad540, e540, hx540_0⟩ := Kd.at_int (Kd.V_reads' HO_1.out).2.2 0 p540 q540
           cases e540
           have qi540 : (0 < x1_1.length) = True := eq_true (by omega)
           (try rw [show ((0 : Int)).toNat = 0 from rfl] at hx540_0)
           (try rw [Addr.add_zero'] at hx540_0)
           replace p540 := eq_true p540
           replace q540 := eq_true q540
           have p541 : 0 ≤ (0 : Int) := (by omega)
           have q541 : 0 < (x0_1.length : Int) := of_decide_eq_true (by first | (with_reducible assumption) | assumption)
           obtain ⟨ad541, e541, hx541_0⟩ := Kd.at_int (Kd.V_reads' HO_0.out).2.2 0 p541 q541
           obtain rfl : ad539 = ad541 := (by injection e541)
           have qi541 : (0 < x0_1.length) = True := eq_true (by omega)
           (try rw [show ((0 : Int)).toNat = 0 from rfl] at hx541_0)
           (try rw [Addr.add_zero'] at hx541_0)
           replace p541 := eq_true p541
           replace q541 := eq_true q541
           have p542 : 0 ≤ (0 : Int) := (by omega)
           have q542 : 0 < (x1_1.length : Int) := of_decide_eq_true (by first | (with_reducible assumption) | assumption)
           obtain ⟨ad542, e542, hx542_0⟩ := Kd.at_int (Kd.V_reads' HO_1.out).2.2 0 p542 q542
           obtain rfl : ad540 = ad542 := (by injection e542)
           have qi542 : (0 < x1_1.length) = True := eq_true (by omega)
           (try rw [show ((0 : Int)).toNat = 0 from rfl] at hx542_0)
           (try rw [Addr.add_zero'] at hx542_0)
           replace p542 := eq_true p542
           replace q542 := eq_true q542
           have p543 : 0 ≤ (0 : Int) := (by omega)
           have q543 : 0 < (x0_1.length : Int) := of_decide_eq_true (by first | (with_reducible assumption) | assumption)
           obtain ⟨ad543, e543, hx543_0⟩ := Kd.at_int (Kd.V_reads' HO_0.out).2.2 0 p543 q543
           obtain rfl : ad539 = ad543 := (by injection e543)
           have qi543 : (0 < x0_1.length) = True := eq_true (by omega)
           (try rw [show ((0 : Int)).toNat = 0 from rfl] at hx543_0)
           (try rw [Addr.add_zero'] at hx543_0)
           replace p543 := eq_true p543
           replace q543 := eq_true q543
           have q19 : (1 : Int) ≤ ((x0_1.length : Int) : Int) := of_decide_eq_true (by first | (with_reducible assumption) | assumption)
           obtain ⟨i019, hi019, _, hsz19, _⟩ := info_parts info3
           have hroom19 : x0_1.length ≤ co17 := (Kd.V_reads' HO_0.out).2.1
           have hC19 : Kd.F (Kd.int .i64) _ _ (some ad539) x0_1.length x0_1 := (Kd.V_at (base := w.heap.size) HO_0.out).2.2
           have hcut19 := cut_from (P := Tryd.prog) 25 3 .i64 Tryd.underlying25 hi019 1 hsz19 (some ad539) x0_1.length co17 1 (by omega) q19
           have hr19 := Kd.F_cut (m := (1 : Int).toNat) (c := co17) hC19 (by omega) hroom19
           obtain ⟨A19, hA19⟩ : ∃ A1, A1 = (if co17 = (1 : Int).toNat then (some ad539) else ((some ad539) : Option Addr).map (·.add ((1 : Int).toNat * 1))) := ⟨_, rfl⟩
           obtain ⟨c19, hc19⟩ : ∃ c1, c1 = co17 - (1 : Int).toNat := ⟨_, rfl⟩
           have hy19 : y544.length = x0_1.length - (1 : Int).toNat := (by rw [Ny544.out, List.length_drop] <;> omega)
           rw [show (x0_1).drop (1 : Int).toNat = y544 from Ny544.out.symm] at hr19
           replace hr19 : Kd.F (Kd.int .i64) _ _ A19 y544.length y544 := (by rw [hA19]; exact hr19)
           rw [← hy19, ← hA19, ← hc19] at hcut19
           have HO548 := Aside0.mk (show Kd.V (Kd.int .i64) 3 _ w.heap.size _ (.slice A19 y544.length c19) y544 from Kd.V_mk (by rw [hy19, hc19]; exact Nat.sub_le_sub_right hroom19 _) hr19)
           have HC548 := Aside0.mk (show y544.length ≤ c19 from by rw [hy19, hc19]; exact Nat.sub_le_sub_right hroom19 _)
           clear hr19 hC19 hroom19 hi019 hsz19 hc19
           have KY19 := Aside0.mk hy19
           have KA19 := Aside0.mk hA19
           clear hy19 hA19
           replace q19 := eq_true q19
           go_wp2
           repeat (go_quiet (fail); try go_wp2)
           go_roundg kj2
           case measure => have := HK1.out; have := HJ2.out; omega
           case rel => exact ⟨(y544), (x1_1), H', ⟨by have := HK1.out; have := HJ2.out; omega⟩, ⟨by (with_reducible repeat (first | apply Kd.V_alloc | apply Kd.V_drewN | apply Kd.V_drew)); exact HO548.out⟩, ⟨by (with_reducible repeat (first | apply Kd.V_alloc | apply Kd.V_drewN | apply Kd.V_drew)); exact HO_1.out⟩, ⟨by repeat (first | (with_reducible first | exact HB.out | apply below_alloc | apply pw_below_drewN | apply below_drew1) | exact HB.out)⟩⟩
          ·rw [if_neg c16] at H
           exact absurd H (by simp)
         ·rw [if_neg c15] at H
          have c15b0 : decide ((rd x0_1 0) < (ji11)) = false := decide_eq_false c15
          clear c15
          by_cases c20 : 1 ≤ (x1_1.length : Int)
          ·rw [if_pos c20] at H
           have c20b0 := eq_true c20
           have c20b1 : decide (1 ≤ (x1_1.length : Int)) = true := decide_eq_true c20
           clear c20
           obtain ⟨y549, hy549⟩ : ∃ y_ : List Int, y_ = (x1_1.drop 1) := ⟨_, rfl⟩
           replace H : (pair_both.l0 kj2 x0_1 y549) = some r := by first | (rw [hy549]; with_reducible exact H) | (have H2_ := (Option.bind_some _ _).symm.trans H; rw [hy549]; with_reducible exact H2_) | (have H2_ := (Option.bind_some _ _).symm.trans H; with_reducible exact H2_) | with_reducible exact H | (rw [hy549]; exact H) | exact H
           have Ny549 := Aside0.mk hy549
           clear hy549
           have H' := Aside0.mk H
           clear H
           obtain ⟨Ao21, co21, eo21⟩ := Kd.V_slice HO_0.out
           subst eo21
           have p539 : 0 ≤ (0 : Int) := (by omega)
           have q539 : 0 < (x0_1.length : Int) := of_decide_eq_true (by first | (with_reducible assumption) | assumption)
           obtain ⟨ad539, e539, hx539_0⟩ := Kd.at_int (Kd.V_reads' HO_0.out).2.2 0 p539 q539
           cases e539
           have qi539 : (0 < x0_1.length) = True := eq_true (by omega)
           (try rw [show ((0 : Int)).toNat = 0 from rfl] at hx539_0)
           (try rw [Addr.add_zero'] at hx539_0)
           replace p539 := eq_true p539
           replace q539 := eq_true q539
           obtain ⟨Ao22, co22, eo22⟩ := Kd.V_slice HO_1.out
           subst eo22
           have p540 : 0 ≤ (0 : Int) := (by omega)
           have q540 : 0 < (x1_1.length : Int) := of_decide_eq_true (by first | (with_reducible assumption) | assumption)
           obtain ⟨ad540, e540, hx540_0⟩ := Kd.at_int (Kd.V_reads' HO_1.out).2.2 0 p540 q540
           cases e540
           have qi540 : (0 < x1_1.length) = True := eq_true (by omega)
           (try rw [show ((0 : Int)).toNat = 0 from rfl] at hx540_0)
           (try rw [Addr.add_zero'] at hx540_0)
           replace p540 := eq_true p540
           replace q540 := eq_true q540
           have p541 : 0 ≤ (0 : Int) := (by omega)
           have q541 : 0 < (x0_1.length : Int) := of_decide_eq_true (by first | (with_reducible assumption) | assumption)
           obtain ⟨ad541, e541, hx541_0⟩ := Kd.at_int (Kd.V_reads' HO_0.out).2.2 0 p541 q541
           obtain rfl : ad539 = ad541 := (by injection e541)
           have qi541 : (0 < x0_1.length) = True := eq_true (by omega)
           (try rw [show ((0 : Int)).toNat = 0 from rfl] at hx541_0)
           (try rw [Addr.add_zero'] at hx541_0)
           replace p541 := eq_true p541
           replace q541 := eq_true q541
           have p542 : 0 ≤ (0 : Int) := (by omega)
           have q542 : 0 < (x1_1.length : Int) := of_decide_eq_true (by first | (with_reducible assumption) | assumption)
           obtain ⟨ad542, e542, hx542_0⟩ := Kd.at_int (Kd.V_reads' HO_1.out).2.2 0 p542 q542
           obtain rfl : ad540 = ad542 := (by injection e542)
           have qi542 : (0 < x1_1.length) = True := eq_true (by omega)
           (try rw [show ((0 : Int)).toNat = 0 from rfl] at hx542_0)
           (try rw [Addr.add_zero'] at hx542_0)
           replace p542 := eq_true p542
           replace q542 := eq_true q542
           have p543 : 0 ≤ (0 : Int) := (by omega)
           have q543 : 0 < (x0_1.length : Int) := of_decide_eq_true (by first | (with_reducible assumption) | assumption)
           obtain ⟨ad543, e543, hx543_0⟩ := Kd.at_int (Kd.V_reads' HO_0.out).2.2 0 p543 q543
           obtain rfl : ad539 = ad543 := (by injection e543)
           have qi543 : (0 < x0_1.length) = True := eq_true (by omega)
           (try rw [show ((0 : Int)).toNat = 0 from rfl] at hx543_0)
           (try rw [Addr.add_zero'] at hx543_0)
           replace p543 := eq_true p543
           replace q543 := eq_true q543
           have q23 : (1 : Int) ≤ ((x1_1.length : Int) : Int) := of_decide_eq_true (by first | (with_reducible assumption) | assumption)
           obtain ⟨i023, hi023, _, hsz23, _⟩ := info_parts info3
           have hroom23 : x1_1.length ≤ co22 := (Kd.V_reads' HO_1.out).2.1
           have hC23 : Kd.F (Kd.int .i64) _ _ (some ad540) x1_1.length x1_1 := (Kd.V_at (base := w.heap.size) HO_1.out).2.2
           have hcut23 := cut_from (P := Tryd.prog) 25 3 .i64 Tryd.underlying25 hi023 1 hsz23 (some ad540) x1_1.length co22 1 (by omega) q23
           have hr23 := Kd.F_cut (m := (1 : Int).toNat) (c := co22) hC23 (by omega) hroom23
           obtain ⟨A23, hA23⟩ : ∃ A1, A1 = (if co22 = (1 : Int).toNat then (some ad540) else ((some ad540) : Option Addr).map (·.add ((1 : Int).toNat * 1))) := ⟨_, rfl⟩
           obtain ⟨c23, hc23⟩ : ∃ c1, c1 = co22 - (1 : Int).toNat := ⟨_, rfl⟩
           have hy23 : y549.length = x1_1.length - (1 : Int).toNat := (by rw [Ny549.out, List.length_drop] <;> omega)
           rw [show (x1_1).drop (1 : Int).toNat = y549 from Ny549.out.symm] at hr23
           replace hr23 : Kd.F (Kd.int .i64) _ _ A23 y549.length y549 := (by rw [hA23]; exact hr23)
           rw [← hy23, ← hA23, ← hc23] at hcut23
           have HO553 := Aside0.mk (show Kd.V (Kd.int .i64) 3 _ w.heap.size _ (.slice A23 y549.length c23) y549 from Kd.V_mk (by rw [hy23, hc23]; exact Nat.sub_le_sub_right hroom23 _) hr23)
           have HC553 := Aside0.mk (show y549.length ≤ c23 from by rw [hy23, hc23]; exact Nat.sub_le_sub_right hroom23 _)
           clear hr23 hC23 hroom23 hi023 hsz23 hc23
           have KY23 := Aside0.mk hy23
           have KA23 := Aside0.mk hA23
           clear hy23 hA23
           replace q23 := eq_true q23
           go_wp2
           repeat (go_quiet (fail); try go_wp2)
           go_roundg kj2
           case measure => have := HK1.out; have := HJ2.out; omega
           case rel => exact ⟨(x0_1), (y549), H', ⟨by have := HK1.out; have := HJ2.out; omega⟩, ⟨by (with_reducible repeat (first | apply Kd.V_alloc | apply Kd.V_drewN | apply Kd.V_drew)); exact HO_0.out⟩, ⟨by (with_reducible repeat (first | apply Kd.V_alloc | apply Kd.V_drewN | apply Kd.V_drew)); exact HO553.out⟩, ⟨by repeat (first | (with_reducible first | exact HB.out | apply below_alloc | apply pw_below_drewN | apply below_drew1) | exact HB.out)⟩⟩
          ·rw [if_neg c20] at H
           exact absurd H (by simp)
       ·rw [if_neg c10] at H
        exact absurd H (by simp)
      ·rw [if_neg c9] at H
       exact absurd H (by simp)
     ·replace c8 := Bool.eq_false_iff.mpr c8
      subst c8
      have H1 : (some (-1)) = some r := by rw [if_neg (show ¬ (false = true) by decide)] at H; exact H
      clear H
      have H := H1
      clear H1
      obtain rfl := Option.some.inj H
      go_wp2
      repeat (go_quiet (fail); try go_wp2)
      go_ret
      exact ⟨by first | rfl | (simp [errW_none, errW_some] <;> rfl) | (simp [*, errW_none, errW_some] <;> rfl), by repeat (first | (with_reducible first | exact HB.out | apply below_alloc | apply pw_below_drewN | apply below_drew1) | exact HB.out)⟩
end Go.Proofs.YtfonajakaimnoaaDoor.Lib

namespace Go.Proofs.YtfonajakaimnoaaDoor.Lib
open Go.RowKit Go.Proofs.YtfonajakaimnoaaDoorW.PrintWords Go.Proofs.YtfonajakaimnoaaDoorW.PrintLast Go.Proofs.YtfonajakaimnoaaDoorW.PrintMore
attribute [local go_sem] max2_int min2_int max_two min_two max_three min_three max_four min_four   -- for this text's walks alone
set_option linter.unusedVariables false
set_option linter.unusedSimpArgs false
def caesuraref14_Symbols.f (a0_0 : Int) (l0_1 : List (List Int)) (l0_2 : List (List Int)) (a0_3 : Int) (l0_4 : List (List Int)) (l0_5 : List (List Int)) (l0_6 : List Bool) (a0_7 : Bool) : Option (Int) := if (l0_1.length : Int) = 0 then (some 0) else (if 0 < (l0_1.length : Int) then (some ((rd_L1 l0_1 0).length : Int)) else (none))
set_option maxHeartbeats 8000000 in
set_option maxRecDepth 100000 in
theorem caesuraref14_Symbols.calls (a0_0 : Int) (A0_1 : Option Addr) (c0_1 : Nat) (l0_1 : List (List Int)) (A0_2 : Option Addr) (c0_2 : Nat) (l0_2 : List (List Int)) (a0_3 : Int) (A0_4 : Option Addr) (c0_4 : Nat) (l0_4 : List (List Int)) (A0_5 : Option Addr) (c0_5 : Nat) (l0_5 : List (List Int)) (A0_6 : Option Addr) (c0_6 : Nat) (l0_6 : List Bool) (a0_7 : Bool) (r : Int) (w : World) (hr0_1 : Kd.C (Kd.slice 3 (Kd.int .i64)) w A0_1 l0_1.length l0_1) (hc0_1 : l0_1.length ≤ c0_1) (hr0_2 : Kd.C (Kd.slice 3 (Kd.int .i64)) w A0_2 l0_2.length l0_2) (hc0_2 : l0_2.length ≤ c0_2) (hr0_4 : Kd.C (Kd.slice 3 (Kd.int .i64)) w A0_4 l0_4.length l0_4) (hc0_4 : l0_4.length ≤ c0_4) (hr0_5 : Kd.C (Kd.slice 3 (Kd.int .i64)) w A0_5 l0_5.length l0_5) (hc0_5 : l0_5.length ≤ c0_5) (hr0_6 : Kd.C Kd.bool w A0_6 l0_6.length l0_6) (hc0_6 : l0_6.length ≤ c0_6) (h : caesuraref14_Symbols.f a0_0 l0_1 l0_2 a0_3 l0_4 l0_5 l0_6 a0_7 = some r) :
  Calls Tryd.prog 97 #[.agg #[.int .i64 a0_0, .slice A0_1 l0_1.length c0_1, .slice A0_2 l0_2.length c0_2, .int .i64 a0_3, .slice A0_4 l0_4.length c0_4, .slice A0_5 l0_5.length c0_5, .slice A0_6 l0_6.length c0_6, .bool a0_7]] w fun e w' => e = .returned (.int .i64 r) ∧ Below w.heap.size w w' := by
 have hu60 := Tryd.underlying60
 have HR0_1 := Aside0.mk hr0_1
 have HC0_1 := Aside0.mk hc0_1
 clear hr0_1 hc0_1
 have HR0_2 := Aside0.mk hr0_2
 have HC0_2 := Aside0.mk hc0_2
 clear hr0_2 hc0_2
 have HR0_4 := Aside0.mk hr0_4
 have HC0_4 := Aside0.mk hc0_4
 clear hr0_4 hc0_4
 have HR0_5 := Aside0.mk hr0_5
 have HC0_5 := Aside0.mk hc0_5
 clear hr0_5 hc0_5
 have HR0_6 := Aside0.mk hr0_6
 have HC0_6 := Aside0.mk hc0_6
 clear hr0_6 hc0_6
 have HB := Aside0.mk (Below.refl w.heap.size w)
 have H : (if (l0_1.length : Int) = 0 then (some 0) else (if 0 < (l0_1.length : Int) then (some ((rd_L1 l0_1 0).length : Int)) else (none))) = some r := h
 clear h
 by_cases c2 : (l0_1.length : Int) = 0
 ·rw [if_pos c2] at H
  have c2b0 : ((l0_1.length : Int) == 0) = true := beq_iff_eq.mpr c2
  have c2b1 : ((l0_1.length : Int) != 0) = false := bne_eq_false_iff_eq.mpr c2
  clear c2
  obtain rfl := Option.some.inj H
  go_enter Tryd.func97, Tryd.ntmps97
  go_wp2_with (first | ((with_reducible refine gate_dst (N := 1) rfl ?_); refine box_event ?hg (N := 1) ?hd (cs := #[.int .i64 a0_0, .slice A0_1 l0_1.length c0_1, .slice A0_2 l0_2.length c0_2, .int .i64 a0_3, .slice A0_4 l0_4.length c0_4, .slice A0_5 l0_5.length c0_5, .slice A0_6 l0_6.length c0_6, .bool a0_7]) (t := 60) ?hr ?_; (case hd => rfl); (case hg => rfl); (case hr => first | (go_simp; done) | (go_simp; rfl)); intro gb570 hg w3 hbox hb; have n0_ := Aside0.mk (below_step (by repeat (first | (with_reducible first | exact HB.out | apply below_alloc | apply pw_below_drewN | apply below_drew1) | exact HB.out)) hb); have n1_ := Aside0.mk (hbox); have n2_ := Aside0.mk ((by rw [hg]; exact (below_size (by repeat (first | (with_reducible first | exact HB.out | apply below_alloc | apply pw_below_drewN | apply below_drew1) | exact HB.out))) : w.heap.size ≤ gb570)); have n3_ := Aside0.mk ((by rw [hg]; exact (below_size (by repeat (first | (with_reducible first | exact HB.out | apply below_alloc | apply pw_below_drewN | apply below_drew1) | exact HB.out))) : w.heap.size ≤ gb570)); clear HB; have HB := n0_; have BK570 := n1_; have GW570 := n2_; have GE570 := n3_; clear n0_ n1_ n2_ n3_; clear hb hbox hg; have hcz4_0 : w3.cell? ⟨gb570, 0, none⟩ = some (.int .i64 a0_0) := (blk_cell BK570.out 0).trans rfl; have hcz4_1 : w3.cell? ⟨gb570, 1, none⟩ = some (.slice A0_1 l0_1.length c0_1) := (blk_cell BK570.out 1).trans rfl; have hcz4_2 : w3.cell? ⟨gb570, 2, none⟩ = some (.slice A0_2 l0_2.length c0_2) := (blk_cell BK570.out 2).trans rfl; have hcz4_3 : w3.cell? ⟨gb570, 3, none⟩ = some (.int .i64 a0_3) := (blk_cell BK570.out 3).trans rfl; have hcz4_4 : w3.cell? ⟨gb570, 4, none⟩ = some (.slice A0_4 l0_4.length c0_4) := (blk_cell BK570.out 4).trans rfl; have hcz4_5 : w3.cell? ⟨gb570, 5, none⟩ = some (.slice A0_5 l0_5.length c0_5) := (blk_cell BK570.out 5).trans rfl; have hcz4_6 : w3.cell? ⟨gb570, 6, none⟩ = some (.slice A0_6 l0_6.length c0_6) := (blk_cell BK570.out 6).trans rfl; have hcz4_7 : w3.cell? ⟨gb570, 7, none⟩ = some (.bool a0_7) := (blk_cell BK570.out 7).trans rfl; have hfz4_0 := blk_frozen BK570.out 0; have hfz4_1 := blk_frozen BK570.out 1; have hfz4_2 := blk_frozen BK570.out 2; have hfz4_3 := blk_frozen BK570.out 3; have hfz4_4 := blk_frozen BK570.out 4; have hfz4_5 := blk_frozen BK570.out 5; have hfz4_6 := blk_frozen BK570.out 6; have hfz4_7 := blk_frozen BK570.out 7))
  go_ret
  exact ⟨by first | rfl | (simp [errW_none, errW_some] <;> rfl) | (simp [*, errW_none, errW_some] <;> rfl), by repeat (first | (with_reducible first | exact HB.out | apply below_alloc | apply pw_below_drewN | apply below_drew1 | refine below_set ?_ GE570.out) | exact HB.out)⟩
 ·rw [if_neg c2] at H
  have c2b0 : ((l0_1.length : Int) == 0) = false := beq_eq_false_iff_ne.mpr c2
  have c2b1 : ((l0_1.length : Int) != 0) = true := bne_iff_ne.mpr c2
  have c2b2 : ¬ (l0_1 = []) := fun h_ => c2 (by rw [h_]; rfl)
  by_cases c5 : 0 < (l0_1.length : Int)
  ·rw [if_pos c5] at H
   have c5b0 : decide (0 < (l0_1.length : Int)) = true := decide_eq_true c5
   have c5b1 : decide (0 < l0_1.length) = true := decide_eq_true (by omega)
   clear c5
   obtain rfl := Option.some.inj H
   go_enter Tryd.func97, Tryd.ntmps97
   go_wp2_with (first | ((with_reducible refine gate_dst (N := 1) rfl ?_); refine box_event ?hg (N := 1) ?hd (cs := #[.int .i64 a0_0, .slice A0_1 l0_1.length c0_1, .slice A0_2 l0_2.length c0_2, .int .i64 a0_3, .slice A0_4 l0_4.length c0_4, .slice A0_5 l0_5.length c0_5, .slice A0_6 l0_6.length c0_6, .bool a0_7]) (t := 60) ?hr ?_; (case hd => rfl); (case hg => rfl); (case hr => first | (go_simp; done) | (go_simp; rfl)); intro gb570 hg w6 hbox hb; have n0_ := Aside0.mk (below_step (by repeat (first | (with_reducible first | exact HB.out | apply below_alloc | apply pw_below_drewN | apply below_drew1) | exact HB.out)) hb); have n1_ := Aside0.mk (hbox); have n2_ := Aside0.mk ((by rw [hg]; exact (below_size (by repeat (first | (with_reducible first | exact HB.out | apply below_alloc | apply pw_below_drewN | apply below_drew1) | exact HB.out))) : w.heap.size ≤ gb570)); have n3_ := Aside0.mk ((by rw [hg]; exact (below_size (by repeat (first | (with_reducible first | exact HB.out | apply below_alloc | apply pw_below_drewN | apply below_drew1) | exact HB.out))) : w.heap.size ≤ gb570)); clear HB; have HB := n0_; have BK570 := n1_; have GW570 := n2_; have GE570 := n3_; clear n0_ n1_ n2_ n3_; clear hb hbox hg; have hcz7_0 : w6.cell? ⟨gb570, 0, none⟩ = some (.int .i64 a0_0) := (blk_cell BK570.out 0).trans rfl; have hcz7_1 : w6.cell? ⟨gb570, 1, none⟩ = some (.slice A0_1 l0_1.length c0_1) := (blk_cell BK570.out 1).trans rfl; have hcz7_2 : w6.cell? ⟨gb570, 2, none⟩ = some (.slice A0_2 l0_2.length c0_2) := (blk_cell BK570.out 2).trans rfl; have hcz7_3 : w6.cell? ⟨gb570, 3, none⟩ = some (.int .i64 a0_3) := (blk_cell BK570.out 3).trans rfl; have hcz7_4 : w6.cell? ⟨gb570, 4, none⟩ = some (.slice A0_4 l0_4.length c0_4) := (blk_cell BK570.out 4).trans rfl; have hcz7_5 : w6.cell? ⟨gb570, 5, none⟩ = some (.slice A0_5 l0_5.length c0_5) := (blk_cell BK570.out 5).trans rfl; have hcz7_6 : w6.cell? ⟨gb570, 6, none⟩ = some (.slice A0_6 l0_6.length c0_6) := (blk_cell BK570.out 6).trans rfl; have hcz7_7 : w6.cell? ⟨gb570, 7, none⟩ = some (.bool a0_7) := (blk_cell BK570.out 7).trans rfl; have hfz7_0 := blk_frozen BK570.out 0; have hfz7_1 := blk_frozen BK570.out 1; have hfz7_2 := blk_frozen BK570.out 2; have hfz7_3 := blk_frozen BK570.out 3; have hfz7_4 := blk_frozen BK570.out 4; have hfz7_5 := blk_frozen BK570.out 5; have hfz7_6 := blk_frozen BK570.out 6; have hfz7_7 := blk_frozen BK570.out 7; have p571 : 0 ≤ (0 : Int) := (by omega); have q571 : 0 < (l0_1.length : Int) := of_decide_eq_true (by first | (with_reducible assumption) | assumption); obtain ⟨ad571, A571_0, c571_0, e571, hx571_0, hl571_0, hi571_0⟩ := at_L1 HR0_1.out 0 p571 q571; cases e571; have qi571 : (0 < l0_1.length) = True := eq_true (by omega); (try rw [show ((0 : Int)).toNat = 0 from rfl] at hx571_0); (try rw [Addr.add_zero'] at hx571_0); replace hx571_0 := (HB.out.cell (World.block_lt_of_cell? w _ hx571_0)).trans hx571_0; have HR571_0 := Aside0.mk hi571_0; have HC571_0 := Aside0.mk hl571_0; clear hi571_0 hl571_0; replace p571 := eq_true p571; replace q571 := eq_true q571))
   go_ret
   exact ⟨by first | rfl | (simp [errW_none, errW_some] <;> rfl) | (simp [*, errW_none, errW_some] <;> rfl), by repeat (first | (with_reducible first | exact HB.out | apply below_alloc | apply pw_below_drewN | apply below_drew1 | refine below_set ?_ GE570.out) | exact HB.out)⟩
  ·rw [if_neg c5] at H
   exact absurd H (by simp)
end Go.Proofs.YtfonajakaimnoaaDoor.Lib

namespace Go.Proofs.YtfonajakaimnoaaDoor.Lib
open Go.RowKit Go.Proofs.YtfonajakaimnoaaDoorW.PrintWords Go.Proofs.YtfonajakaimnoaaDoorW.PrintLast Go.Proofs.YtfonajakaimnoaaDoorW.PrintMore
attribute [local go_sem] max2_int min2_int max_two min_two max_three min_three max_four min_four   -- for this text's walks alone
set_option linter.unusedVariables false
set_option linter.unusedSimpArgs false
def caesuraref14_turned.l0 : Nat → List Int → List Int → Int → Option (List Int)
 | 0, _, _, _ => none
 | k + 1, x0, x3, x4 => if x4 ≥ 0 then (if 0 ≤ x4 then (if x4 < (x0.length : Int) then (if x3.length < 17592186044416 then (caesuraref14_turned.l0 k x0 (x3 ++ [rd x0 x4]) (wrap64 (x4 - 1))) else (none)) else (none)) else (none)) else (some x3)
def caesuraref14_turned.f (k : Nat) (l0 : List Int) : Option (List Int) := caesuraref14_turned.l0 k l0 ([] : List Int) (wrap64 ((l0.length : Int) - 1))
set_option maxHeartbeats 8000000 in
set_option maxRecDepth 100000 in
theorem caesuraref14_turned.calls (k : Nat) (A0 : Option Addr) (c0 : Nat) (l0 : List Int) (r : List Int) (w : World) (hr0 : Kd.C (Kd.int .i64) w A0 l0.length l0) (hc0 : l0.length ≤ c0) (h : caesuraref14_turned.f k l0 = some r) :
  Calls Tryd.prog 99 #[.slice A0 l0.length c0] w fun e w' => ∃ v0_ : Value, e = .returned (v0_) ∧ Kd.R (Kd.int .i64) 3 w' w.heap.size (fun _ => True) v0_ r ∧ Below w.heap.size w w' := by
 have HR0 := Aside0.mk hr0
 have HC0 := Aside0.mk hc0
 clear hr0 hc0
 have HB := Aside0.mk (Below.refl w.heap.size w)
 have H : (caesuraref14_turned.l0 k l0 ([] : List Int) (wrap64 ((l0.length : Int) - 1))) = some r := h
 clear h
 have H' := Aside0.mk H
 clear H
 go_enter Tryd.func99, Tryd.ntmps99
 go_wp2
 go_loopg [3, 4] k (fun kq v3 v4 w' => ∃ (x3_1 : List Int) (x4_1 : Int), v4 = .int .i64 x4_1 ∧ Aside0 (caesuraref14_turned.l0 kq l0 x3_1 x4_1 = some r) ∧ Aside0 (kq ≤ k) ∧ Aside0 (Kd.R (Kd.int .i64) 3 w' w.heap.size (fun _ => True) v3 x3_1) ∧ Aside0 (Below w.heap.size w w'))
 case atStart => exact ⟨(([] : List Int)), (wrap64 ((l0.length : Int) - 1)), (by first | rfl | (simp; done) | (simp [*]; done)), H', ⟨Nat.le_refl _⟩, ⟨by first | exact Kd.R_nil _ _ _ _ _ | exact Kd.N_nil _ _ _ _ _ | exact Kd.V_nil _ _ _ _ _ | exact Kd.Q_nil _ _ _ _ _ | exact Kd.S_nil _ _ _ _ _⟩, ⟨by repeat (first | (with_reducible first | exact HB.out | apply below_alloc | apply pw_below_drewN | apply below_drew1) | exact HB.out)⟩⟩
 case round =>
  clear H'
  obtain ⟨x3_1, x4_1, rfl, HA, HK1, HO_3, HB⟩ := hrel
  cases gk with
  | zero => exact absurd HA.out (by simp [caesuraref14_turned.l0])
  | succ k1 =>
   have H := HA.out
   clear HA
   simp only [caesuraref14_turned.l0] at H
   by_cases c2 : x4_1 ≥ 0
   ·rw [if_pos c2] at H
    have c2b0 : decide (0 ≤ x4_1) = true := decide_eq_true c2
    clear c2
    by_cases c3 : 0 ≤ x4_1
    ·rw [if_pos c3] at H
     have c3b0 : decide (0 ≤ x4_1) = true := decide_eq_true c3
     clear c3
     by_cases c4 : x4_1 < (l0.length : Int)
     ·rw [if_pos c4] at H
      have c4b0 : decide (x4_1 < (l0.length : Int)) = true := decide_eq_true c4
      clear c4
      by_cases c5 : x3_1.length < 17592186044416
      ·rw [if_pos c5] at H
       have LMc5 := Aside0.mk c5
       clear c5
       obtain ⟨y586, hy586⟩ : ∃ y_ : List Int, y_ = (x3_1 ++ [rd l0 x4_1]) := ⟨_, rfl⟩
       replace H : (caesuraref14_turned.l0 k1 l0 y586 (wrap64 (x4_1 - 1))) = some r := by first | (rw [hy586]; with_reducible exact H) | (have H2_ := (Option.bind_some _ _).symm.trans H; rw [hy586]; with_reducible exact H2_) | (have H2_ := (Option.bind_some _ _).symm.trans H; with_reducible exact H2_) | with_reducible exact H | (rw [hy586]; exact H) | exact H
       have Ny586 := Aside0.mk hy586
       clear hy586
       have H' := Aside0.mk H
       clear H
       have p585 : 0 ≤ (x4_1 : Int) := of_decide_eq_true (by first | (with_reducible assumption) | assumption)
       have q585 : x4_1 < (l0.length : Int) := of_decide_eq_true (by first | (with_reducible assumption) | assumption)
       obtain ⟨ad585, e585, hx585_0⟩ := Kd.at_int HR0.out x4_1 p585 q585
       cases e585
       replace hx585_0 := (HB.out.cell (World.block_lt_of_cell? w _ hx585_0)).trans hx585_0
       replace p585 := eq_true p585
       replace q585 := eq_true q585
       go_wp2_with (first | ((with_reducible refine gate_builtin (b := .append) (xs := #[.tmp 12, .tmp 17]) rfl ?_); at_builtin; refine Kd.R_append (Kd.int .i64) (w0 := w) w.heap.size rfl (.tmp 12) (.tmp 17) 25 3 (.int .i64 0) 8 rfl Tryd.underlying25 info3 rfl (by decide) (by omega) u3 x3_1 (rd l0 x4_1) [.int .i64 (rd l0 x4_1)] (fun _ => True) (fun _ => False) rfl rfl ?aP (fun _ hk => hk.elim) ?aF ?aO ?aB ?aS ?aL ?_; (case aP => exact rfl); (case aB => exact (by repeat (first | (with_reducible first | exact HB.out | apply below_alloc | apply pw_below_drewN | apply below_drew1) | exact HB.out))); (case aF => exact (fun _ _ => trivial)); (case aO => exact (by (with_reducible repeat (first | apply Kd.R_alloc | apply Kd.R_drewN | apply Kd.R_drew)); exact HO_3.out)); (case aS => exact (below_size (by repeat (first | (with_reducible first | exact HB.out | apply below_alloc | apply pw_below_drewN | apply below_drew1) | exact HB.out)))); (case aL => have := LMc5.out; omega); intro v587 w6 ho hb hg hat; rw [← Ny586.out] at ho; have n0_ := Aside0.mk (hb); have n1_ := Aside0.mk (ho); clear HB; clear HO_3; have HB := n0_; have HO588 := n1_; clear n0_ n1_; clear ho hb hg hat))
       go_roundg k1
       case measure => have := HK1.out; omega
       case rel => exact ⟨(y586), (wrap64 (x4_1 - 1)), (by first | rfl | (simp; done) | (simp [*]; done)), H', ⟨by have := HK1.out; omega⟩, ⟨by (with_reducible repeat (first | apply Kd.R_alloc | apply Kd.R_drewN | apply Kd.R_drew)); exact HO588.out⟩, ⟨by repeat (first | (with_reducible first | exact HB.out | apply below_alloc | apply pw_below_drewN | apply below_drew1) | exact HB.out)⟩⟩
      ·rw [if_neg c5] at H
       exact absurd H (by simp)
     ·rw [if_neg c4] at H
      exact absurd H (by simp)
    ·rw [if_neg c3] at H
     exact absurd H (by simp)
   ·rw [if_neg c2] at H
    have c2b0 : decide (0 ≤ x4_1) = false := decide_eq_false c2
    clear c2
    obtain rfl := Option.some.inj H
    go_wp2
    go_ret
    exact ⟨_, by first | rfl | (simp [errW_none, errW_some] <;> rfl) | (simp [*, errW_none, errW_some] <;> rfl), by (with_reducible repeat (first | apply Kd.R_alloc | apply Kd.R_drewN | apply Kd.R_drew)); exact HO_3.out, by repeat (first | (with_reducible first | exact HB.out | apply below_alloc | apply pw_below_drewN | apply below_drew1) | exact HB.out)⟩
end Go.Proofs.YtfonajakaimnoaaDoor.Lib

namespace Go.Proofs.YtfonajakaimnoaaDoor.Lib
open Go.RowKit Go.Proofs.YtfonajakaimnoaaDoorW.PrintWords Go.Proofs.YtfonajakaimnoaaDoorW.PrintLast Go.Proofs.YtfonajakaimnoaaDoorW.PrintMore
attribute [local go_sem] max2_int min2_int max_two min_two max_three min_three max_four min_four   -- for this text's walks alone
set_option linter.unusedVariables false
set_option linter.unusedSimpArgs false
mutual
def caesuraref14_Least.l0 : Nat → List Int → List Int → Int → Option (Int)
 | 0, _, _, _ => none
 | k + 1, x0, x1, x5 => if x5 < (x0.length : Int) then (caesuraref14_Least.l1 k x0 x1 x5 0) else (some (-1))
def caesuraref14_Least.l1 : Nat → List Int → List Int → Int → Int → Option (Int)
 | 0, _, _, _, _ => none
 | k + 1, x0, x1, x5, x6 => if x6 < (x1.length : Int) then (if 0 ≤ x5 then (if x5 < (x0.length : Int) then (if 0 ≤ x6 then (if (rd x0 x5) = (rd x1 x6) then (some (rd x0 x5)) else (caesuraref14_Least.l1 k x0 x1 x5 (wrap64 (x6 + 1)))) else (none)) else (none)) else (none)) else (caesuraref14_Least.l0 k x0 x1 (wrap64 (x5 + 1)))
end
def caesuraref14_Least.f (k : Nat) (l0 : List Int) (l1 : List Int) : Option (Int) := caesuraref14_Least.l0 k l0 l1 0
set_option maxHeartbeats 8000000 in
set_option maxRecDepth 100000 in
theorem caesuraref14_Least.calls (k : Nat) (A0 : Option Addr) (c0 : Nat) (l0 : List Int) (A1 : Option Addr) (c1 : Nat) (l1 : List Int) (r : Int) (w : World) (hr0 : Kd.C (Kd.int .i64) w A0 l0.length l0) (hc0 : l0.length ≤ c0) (hr1 : Kd.C (Kd.int .i64) w A1 l1.length l1) (hc1 : l1.length ≤ c1) (h : caesuraref14_Least.f k l0 l1 = some r) :
  Calls Tryd.prog 100 #[.slice A0 l0.length c0, .slice A1 l1.length c1] w fun e w' => e = .returned (.int .i64 r) ∧ Drawn0 w w' := by
 have HR0 := Aside0.mk hr0
 have HC0 := Aside0.mk hc0
 clear hr0 hc0
 have HR1 := Aside0.mk hr1
 have HC1 := Aside0.mk hc1
 clear hr1 hc1
 have H : (caesuraref14_Least.l0 k l0 l1 0) = some r := h
 clear h
 have H' := Aside0.mk H
 clear H
 go_enter Tryd.func100, Tryd.ntmps100
 go_wp2
 repeat (go_quiet (fail); try go_wp2)
 go_loopg [5] k (fun kq v5 w' => ∃ (x5_1 : Int), v5 = .int .i64 x5_1 ∧ Aside0 (caesuraref14_Least.l0 kq l0 l1 x5_1 = some r) ∧ Aside0 (kq ≤ k) ∧ Drawn0 w w')
 case atStart => exact ⟨(0), (by first | rfl | (simp; done) | (simp [*]; done)), H', ⟨Nat.le_refl _⟩, by repeat (first | exact Drawn0.refl _ | apply Drawn0.step)⟩
 case round =>
  clear H'
  try clear c1
  try clear p2
  obtain ⟨x5_1, rfl, HA, HK1, ⟨m1, rfl⟩⟩ := hrel
  cases gk with
  | zero => exact absurd HA.out (by simp [caesuraref14_Least.l0])
  | succ k1 =>
   have H := HA.out
   clear HA
   simp only [caesuraref14_Least.l0] at H
   by_cases c3 : x5_1 < (l0.length : Int)
   ·rw [if_pos c3] at H
    have c3b0 : decide (x5_1 < (l0.length : Int)) = true := decide_eq_true c3
    clear c3
    have H' := Aside0.mk H
    clear H
    go_wp2
    repeat (go_quiet (fail); try go_wp2)
    go_loopg [6] k1 (fun kq v6 w' => ∃ (x6_2 : Int), v6 = .int .i64 x6_2 ∧ Aside0 (caesuraref14_Least.l1 kq l0 l1 x5_1 x6_2 = some r) ∧ Aside0 (kq ≤ k1) ∧ Drawn0 w w')
    case atStart => exact ⟨(0), (by first | rfl | (simp; done) | (simp [*]; done)), H', ⟨Nat.le_refl _⟩, by repeat (first | exact Drawn0.refl _ | apply Drawn0.step)⟩
    case round =>
     clear H'
     try clear c1
     try clear p2
     try clear c3
     try clear c3b0
     try clear p2
     obtain ⟨x6_2, rfl, HA, HK2, ⟨m2, rfl⟩⟩ := hrel
     cases gk with
     | zero => exact absurd HA.out (by simp [caesuraref14_Least.l1])
     | succ k2 =>
      have H := HA.out
      clear HA
      simp only [caesuraref14_Least.l1] at H
      by_cases c4 : x6_2 < (l1.length : Int)
      ·rw [if_pos c4] at H
       have c4b0 : decide (x6_2 < (l1.length : Int)) = true := decide_eq_true c4
       clear c4
       by_cases c5 : 0 ≤ x5_1
       ·rw [if_pos c5] at H
        have c5b0 : decide (0 ≤ x5_1) = true := decide_eq_true c5
        clear c5
        by_cases c6 : x5_1 < (l0.length : Int)
        ·rw [if_pos c6] at H
         have c6b0 : decide (x5_1 < (l0.length : Int)) = true := decide_eq_true c6
         clear c6
         by_cases c7 : 0 ≤ x6_2
         ·rw [if_pos c7] at H
          have c7b0 : decide (0 ≤ x6_2) = true := decide_eq_true c7
          clear c7
          by_cases c8 : (rd l0 x5_1) = (rd l1 x6_2)
          ·rw [if_pos c8] at H
           have c8b0 : ((rd l0 x5_1) == (rd l1 x6_2)) = true := beq_iff_eq.mpr c8
           have c8b1 : ((rd l0 x5_1) != (rd l1 x6_2)) = false := bne_eq_false_iff_eq.mpr c8
           clear c8
           obtain rfl := Option.some.inj H
           have p589 : 0 ≤ (x5_1 : Int) := of_decide_eq_true (by first | (with_reducible assumption) | assumption)
           have q589 : x5_1 < (l0.length : Int) := of_decide_eq_true (by first | (with_reducible assumption) | assumption)
           obtain ⟨ad589, e589, hx589_0⟩ := Kd.at_int HR0.out x5_1 p589 q589
           cases e589
           replace p589 := eq_true p589
           replace q589 := eq_true q589
           have p590 : 0 ≤ (x6_2 : Int) := of_decide_eq_true (by first | (with_reducible assumption) | assumption)
           have q590 : x6_2 < (l1.length : Int) := of_decide_eq_true (by first | (with_reducible assumption) | assumption)
           obtain ⟨ad590, e590, hx590_0⟩ := Kd.at_int HR1.out x6_2 p590 q590
           cases e590
           replace p590 := eq_true p590
           replace q590 := eq_true q590
           have p591 : 0 ≤ (x5_1 : Int) := of_decide_eq_true (by first | (with_reducible assumption) | assumption)
           have q591 : x5_1 < (l0.length : Int) := of_decide_eq_true (by first | (with_reducible assumption) | assumption)
           obtain ⟨ad591, e591, hx591_0⟩ := Kd.at_int HR0.out x5_1 p591 q591
           obtain rfl : ad589 = ad591 := (by injection e591)
           replace p591 := eq_true p591
           replace q591 := eq_true q591
           go_wp2
           repeat (go_quiet (fail); try go_wp2)
           go_ret
           exact ⟨by first | rfl | (simp; done) | (simp [*]; done), by repeat (first | exact Drawn0.refl _ | apply Drawn0.step)⟩
          ·rw [if_neg c8] at H
           have c8b0 : ((rd l0 x5_1) == (rd l1 x6_2)) = false := beq_eq_false_iff_ne.mpr c8
           have c8b1 : ((rd l0 x5_1) != (rd l1 x6_2)) = true := bne_iff_ne.mpr c8
           have H' := Aside0.mk H
           clear H
           have p589 : 0 ≤ (x5_1 : Int) := of_decide_eq_true (by first | (with_reducible assumption) | assumption)
           have q589 : x5_1 < (l0.length : Int) := of_decide_eq_true (by first | (with_reducible assumption) | assumption)
           obtain ⟨ad589, e589, hx589_0⟩ := Kd.at_int HR0.out x5_1 p589 q589
           cases e589
           replace p589 := eq_true p589
           replace q589 := eq_true q589
           have p590 : 0 ≤ (x6_2 : Int) := of_decide_eq_true (by first | (with_reducible assumption) | assumption)
           have q590 : x6_2 < (l1.length : Int) := of_decide_eq_true (by first | (with_reducible assumption) | assumption)
           obtain ⟨ad590, e590, hx590_0⟩ := Kd.at_int HR1.out x6_2 p590 q590
           cases e590
           replace p590 := eq_true p590
           replace q590 := eq_true q590
           go_wp2
           repeat (go_quiet (fail); try go_wp2)
           go_roundg k2
           case measure => have := HK1.out; have := HK2.out; omega
           case rel => exact ⟨(wrap64 (x6_2 + 1)), (by first | rfl | (simp; done) | (simp [*]; done)), H', ⟨by have := HK1.out; have := HK2.out; omega⟩, by repeat (first | exact Drawn0.refl _ | apply Drawn0.step)⟩
         ·rw [if_neg c7] at H
          exact absurd H (by simp)
        ·rw [if_neg c6] at H
         exact absurd H (by simp)
       ·rw [if_neg c5] at H
        exact absurd H (by simp)
      ·rw [if_neg c4] at H
       have c4b0 : decide (x6_2 < (l1.length : Int)) = false := decide_eq_false c4
       clear c4
       have H' := Aside0.mk H
       clear H
       go_wp2
       repeat (go_quiet (fail); try go_wp2)
       go_roundg k2
       case measure => have := HK1.out; have := HK2.out; omega
       case rel => exact ⟨(wrap64 (x5_1 + 1)), (by first | rfl | (simp; done) | (simp [*]; done)), H', ⟨by have := HK1.out; have := HK2.out; omega⟩, by repeat (first | exact Drawn0.refl _ | apply Drawn0.step)⟩
   ·rw [if_neg c3] at H
    have c3b0 : decide (x5_1 < (l0.length : Int)) = false := decide_eq_false c3
    clear c3
    obtain rfl := Option.some.inj H
    go_wp2
    repeat (go_quiet (fail); try go_wp2)
    go_ret
    exact ⟨by first | rfl | (simp; done) | (simp [*]; done), by repeat (first | exact Drawn0.refl _ | apply Drawn0.step)⟩
end Go.Proofs.YtfonajakaimnoaaDoor.Lib

namespace Go.Proofs.YtfonajakaimnoaaDoor.Lib
open Go.RowKit Go.Proofs.YtfonajakaimnoaaDoorW.PrintWords Go.Proofs.YtfonajakaimnoaaDoorW.PrintLast Go.Proofs.YtfonajakaimnoaaDoorW.PrintMore
attribute [local go_sem] max2_int min2_int max_two min_two max_three min_three max_four min_four   -- for this text's walks alone
set_option linter.unusedVariables false
set_option linter.unusedSimpArgs false
mutual
def caesuraref14_Decide.l0 : Nat → List Int → Int → Int → Int → List (List Int) → List (List Int) → Int → List (List Int) → List (List Int) → List Bool → Bool → Option (List Int × Int)
 | 0, _, _, _, _, _, _, _, _, _, _, _ => none
 | k + 1, x1, x6, x8, x593000, x593001, x593002, x593003, x593004, x593005, x593006, x593007 => if x8 < (x1.length : Int) then (if 0 ≤ x8 then (if (rd x1 x8) < 0 then (some (([] : List Int), 1)) else (if (rd x1 x8) ≥ x6 then (some (([] : List Int), 1)) else (caesuraref14_Decide.l0 k x1 x6 (wrap64 (x8 + 1)) x593000 x593001 x593002 x593003 x593004 x593005 x593006 x593007))) else (none)) else ((caesuraref12_Run.f k x593000 x593001 x593002 x1).bind fun bt597 => ((caesuraref14_turned.f k x1).bind fun t601 => ((caesuraref12_Run.f k x593003 x593004 x593005 t601).bind fun bt604 => (caesuraref14_Decide.l1 k x1 bt597.1 bt604.1 ([] : List Int) 1 x593000 x593001 x593002 x593003 x593004 x593005 x593006 x593007))))
def caesuraref14_Decide.l1 : Nat → List Int → List Int → List Int → List Int → Int → Int → List (List Int) → List (List Int) → Int → List (List Int) → List (List Int) → List Bool → Bool → Option (List Int × Int)
 | 0, _, _, _, _, _, _, _, _, _, _, _, _, _ => none
 | k + 1, x1, x9, x11, x13, x14, x593000, x593001, x593002, x593003, x593004, x593005, x593006, x593007 => if x14 < (x1.length : Int) then (if 0 ≤ x14 then (if x14 < (x9.length : Int) then (if 0 ≤ (rd x9 x14) then (if (rd x9 x14) < (x593002.length : Int) then (if 0 ≤ (wrap64 ((x1.length : Int) - x14)) then (if (wrap64 ((x1.length : Int) - x14)) < (x11.length : Int) then (if 0 ≤ (rd x11 (wrap64 ((x1.length : Int) - x14))) then (if (rd x11 (wrap64 ((x1.length : Int) - x14))) < (x593005.length : Int) then ((caesuraref14_Least.f k (rd_L1 x593002 (rd x9 x14)) (rd_L1 x593005 (rd x11 (wrap64 ((x1.length : Int) - x14))))).bind fun t612 => (if x13.length < 17592186044416 then (caesuraref14_Decide.l1 k x1 x9 x11 (x13 ++ [t612]) (wrap64 (x14 + 1)) x593000 x593001 x593002 x593003 x593004 x593005 x593006 x593007) else (none))) else (none)) else (none)) else (none)) else (none)) else (none)) else (none)) else (none)) else (none)) else (some (x13, 0))
end
def caesuraref14_Decide.f (k : Nat) (a0_0 : Int) (l0_1 : List (List Int)) (l0_2 : List (List Int)) (a0_3 : Int) (l0_4 : List (List Int)) (l0_5 : List (List Int)) (l0_6 : List Bool) (a0_7 : Bool) (l1 : List Int) : Option (List Int × Int) := (caesuraref14_Symbols.f a0_0 l0_1 l0_2 a0_3 l0_4 l0_5 l0_6 a0_7).bind fun t593 => ((caesuraref14_Check.f k a0_0 l0_1 l0_2 a0_3 l0_4 l0_5 l0_6 a0_7 t593).bind fun t594 => (if t594 = 0 then (caesuraref14_Decide.l0 k l1 t593 0 a0_0 l0_1 l0_2 a0_3 l0_4 l0_5 l0_6 a0_7) else (some (([] : List Int), 1))))
def caesuraref14_Decide.T11 : Bool × List (List Nat × List Nat) := (true, [([], []), ([0], [0]), ([], []), ([2], [2]), ([1, 3, 3], [1, 3]), ([4], [4]), ([5], [5]), ([5], [5]), ([6, 4, 0, 1, 2, 3, 4, 5, 6], [6]), ([7, 8, 0, 1, 2, 3, 4, 5, 6, 7, 8], [7])])
def caesuraref14_Decide.B11 : List Nat := [0, 1, 0, 4, 15, 31, 63, 63, 127, 511]
theorem caesuraref14_Decide.tab11 : rtab .any (opsOf Tryd.f40 11) = caesuraref14_Decide.T11 := by kernel_rfl
theorem caesuraref14_Decide.bits11 : waitsOk caesuraref14_Decide.T11.2 caesuraref14_Decide.B11 = true := by kernel_rfl
def caesuraref14_Decide.T16 : Bool × List (List Nat × List Nat) := (true, [([], []), ([0], [0]), ([1], [1]), ([], []), ([], []), ([3, 4], [3, 4]), ([5], [5]), ([2, 6], [2, 6]), ([7], [7]), ([], []), ([9], [9]), ([10], [10]), ([], []), ([], []), ([13], [13]), ([], []), ([14, 15], [14, 15]), ([12, 16], [12, 16]), ([17], [17]), ([11, 18], [11, 18]), ([19], [19]), ([8, 20], [8, 20]), ([21, 21, 0, 1, 2, 3, 4, 5, 6, 7, 8, 9, 10, 11, 12, 13, 14, 15, 16, 17, 18, 19, 20, 21], [21])])
def caesuraref14_Decide.B16 : List Nat := [0, 1, 3, 0, 0, 24, 56, 127, 255, 0, 512, 1536, 0, 0, 8192, 0, 57344, 126976, 258048, 523776, 1048064, 2097151, 4194303]
theorem caesuraref14_Decide.tab16 : rtab .any (opsOf Tryd.f40 16) = caesuraref14_Decide.T16 := by kernel_rfl
theorem caesuraref14_Decide.bits16 : waitsOk caesuraref14_Decide.T16.2 caesuraref14_Decide.B16 = true := by kernel_rfl
set_option maxHeartbeats 8000000 in
set_option maxRecDepth 100000 in
theorem caesuraref14_Decide.calls (k : Nat) (a0_0 : Int) (A0_1 : Option Addr) (c0_1 : Nat) (l0_1 : List (List Int)) (A0_2 : Option Addr) (c0_2 : Nat) (l0_2 : List (List Int)) (a0_3 : Int) (A0_4 : Option Addr) (c0_4 : Nat) (l0_4 : List (List Int)) (A0_5 : Option Addr) (c0_5 : Nat) (l0_5 : List (List Int)) (A0_6 : Option Addr) (c0_6 : Nat) (l0_6 : List Bool) (a0_7 : Bool) (A1 : Option Addr) (c1 : Nat) (l1 : List Int) (r1 : List Int) (r2 : Int) (w : World) (hr0_1 : Kd.C (Kd.slice 3 (Kd.int .i64)) w A0_1 l0_1.length l0_1) (hc0_1 : l0_1.length ≤ c0_1) (hr0_2 : Kd.C (Kd.slice 3 (Kd.int .i64)) w A0_2 l0_2.length l0_2) (hc0_2 : l0_2.length ≤ c0_2) (hr0_4 : Kd.C (Kd.slice 3 (Kd.int .i64)) w A0_4 l0_4.length l0_4) (hc0_4 : l0_4.length ≤ c0_4) (hr0_5 : Kd.C (Kd.slice 3 (Kd.int .i64)) w A0_5 l0_5.length l0_5) (hc0_5 : l0_5.length ≤ c0_5) (hr0_6 : Kd.C Kd.bool w A0_6 l0_6.length l0_6) (hc0_6 : l0_6.length ≤ c0_6) (hr1 : Kd.C (Kd.int .i64) w A1 l1.length l1) (hc1 : l1.length ≤ c1) (h : caesuraref14_Decide.f k a0_0 l0_1 l0_2 a0_3 l0_4 l0_5 l0_6 a0_7 l1 = some (r1, r2)) :
  Calls Tryd.prog 40 #[.agg #[.int .i64 a0_0, .slice A0_1 l0_1.length c0_1, .slice A0_2 l0_2.length c0_2, .int .i64 a0_3, .slice A0_4 l0_4.length c0_4, .slice A0_5 l0_5.length c0_5, .slice A0_6 l0_6.length c0_6, .bool a0_7], .slice A1 l1.length c1] w fun e w' => ∃ v0_ : Value, e = .returned (.tuple #[v0_, .int .i64 r2]) ∧ Kd.R (Kd.int .i64) 3 w' w.heap.size (fun _ => True) v0_ r1 ∧ Below w.heap.size w w' := by
 have hu60 := Tryd.underlying60
 have hu24 := Tryd.underlying24
 have HR0_1 := Aside0.mk hr0_1
 have HC0_1 := Aside0.mk hc0_1
 clear hr0_1 hc0_1
 have HR0_2 := Aside0.mk hr0_2
 have HC0_2 := Aside0.mk hc0_2
 clear hr0_2 hc0_2
 have HR0_4 := Aside0.mk hr0_4
 have HC0_4 := Aside0.mk hc0_4
 clear hr0_4 hc0_4
 have HR0_5 := Aside0.mk hr0_5
 have HC0_5 := Aside0.mk hc0_5
 clear hr0_5 hc0_5
 have HR0_6 := Aside0.mk hr0_6
 have HC0_6 := Aside0.mk hc0_6
 clear hr0_6 hc0_6
 have HR1 := Aside0.mk hr1
 have HC1 := Aside0.mk hc1
 clear hr1 hc1
 have HB := Aside0.mk (Below.refl w.heap.size w)
 have H : ((caesuraref14_Symbols.f a0_0 l0_1 l0_2 a0_3 l0_4 l0_5 l0_6 a0_7).bind fun t593 => ((caesuraref14_Check.f k a0_0 l0_1 l0_2 a0_3 l0_4 l0_5 l0_6 a0_7 t593).bind fun t594 => (if t594 = 0 then (caesuraref14_Decide.l0 k l1 t593 0 a0_0 l0_1 l0_2 a0_3 l0_4 l0_5 l0_6 a0_7) else (some (([] : List Int), 1))))) = some (r1, r2) := h
 clear h
 replace H := Option.bind_eq_some_iff.mp H
 obtain ⟨t593, A30, H⟩ := H
 replace H : ((caesuraref14_Check.f k a0_0 l0_1 l0_2 a0_3 l0_4 l0_5 l0_6 a0_7 t593).bind fun t594 => (if t594 = 0 then (caesuraref14_Decide.l0 k l1 t593 0 a0_0 l0_1 l0_2 a0_3 l0_4 l0_5 l0_6 a0_7) else (some (([] : List Int), 1)))) = some (r1, r2) := H
 have A3 := Aside0.mk A30
 clear A30
 replace H := Option.bind_eq_some_iff.mp H
 obtain ⟨t594, A40, H⟩ := H
 replace H : (if t594 = 0 then (caesuraref14_Decide.l0 k l1 t593 0 a0_0 l0_1 l0_2 a0_3 l0_4 l0_5 l0_6 a0_7) else (some (([] : List Int), 1))) = some (r1, r2) := H
 have A4 := Aside0.mk A40
 clear A40
 by_cases c5 : t594 = 0
 ·rw [if_pos c5] at H
  have c5b0 : (t594 == 0) = true := beq_iff_eq.mpr c5
  have c5b1 : (t594 != 0) = false := bne_eq_false_iff_eq.mpr c5
  clear c5
  have H' := Aside0.mk H
  clear H
  go_enter Tryd.func40, Tryd.ntmps40
  go_wp2_with (first | ((with_reducible refine gate_dst (N := 2) rfl ?_); refine box_event ?hg (N := 2) ?hd (cs := #[.int .i64 a0_0, .slice A0_1 l0_1.length c0_1, .slice A0_2 l0_2.length c0_2, .int .i64 a0_3, .slice A0_4 l0_4.length c0_4, .slice A0_5 l0_5.length c0_5, .slice A0_6 l0_6.length c0_6, .bool a0_7]) (t := 60) ?hr ?_; (case hd => rfl); (case hg => rfl); (case hr => first | (go_simp; done) | (go_simp; rfl)); intro gb592 hg w6 hbox hb; have n0_ := Aside0.mk (below_step (by repeat (first | (with_reducible first | exact HB.out | apply below_alloc | apply pw_below_drewN | apply below_drew1) | exact HB.out)) hb); have n1_ := Aside0.mk (hbox); have n2_ := Aside0.mk ((by rw [hg]; exact (below_size (by repeat (first | (with_reducible first | exact HB.out | apply below_alloc | apply pw_below_drewN | apply below_drew1) | exact HB.out))) : w.heap.size ≤ gb592)); have n3_ := Aside0.mk ((by rw [hg]; exact (below_size (by repeat (first | (with_reducible first | exact HB.out | apply below_alloc | apply pw_below_drewN | apply below_drew1) | exact HB.out))) : w.heap.size ≤ gb592)); clear HB; have HB := n0_; have BK592 := n1_; have GW592 := n2_; have GE592 := n3_; clear n0_ n1_ n2_ n3_; clear hb hbox hg; have hcz7_0 : w6.cell? ⟨gb592, 0, none⟩ = some (.int .i64 a0_0) := (blk_cell BK592.out 0).trans rfl; have hcz7_1 : w6.cell? ⟨gb592, 1, none⟩ = some (.slice A0_1 l0_1.length c0_1) := (blk_cell BK592.out 1).trans rfl; have hcz7_2 : w6.cell? ⟨gb592, 2, none⟩ = some (.slice A0_2 l0_2.length c0_2) := (blk_cell BK592.out 2).trans rfl; have hcz7_3 : w6.cell? ⟨gb592, 3, none⟩ = some (.int .i64 a0_3) := (blk_cell BK592.out 3).trans rfl; have hcz7_4 : w6.cell? ⟨gb592, 4, none⟩ = some (.slice A0_4 l0_4.length c0_4) := (blk_cell BK592.out 4).trans rfl; have hcz7_5 : w6.cell? ⟨gb592, 5, none⟩ = some (.slice A0_5 l0_5.length c0_5) := (blk_cell BK592.out 5).trans rfl; have hcz7_6 : w6.cell? ⟨gb592, 6, none⟩ = some (.slice A0_6 l0_6.length c0_6) := (blk_cell BK592.out 6).trans rfl; have hcz7_7 : w6.cell? ⟨gb592, 7, none⟩ = some (.bool a0_7) := (blk_cell BK592.out 7).trans rfl; have hfz7_0 := blk_frozen BK592.out 0; have hfz7_1 := blk_frozen BK592.out 1; have hfz7_2 := blk_frozen BK592.out 2; have hfz7_3 := blk_frozen BK592.out 3; have hfz7_4 := blk_frozen BK592.out 4; have hfz7_5 := blk_frozen BK592.out 5; have hfz7_6 := blk_frozen BK592.out 6; have hfz7_7 := blk_frozen BK592.out 7) | ((with_reducible refine gate_callee (f := 97) rfl ?_); refine goesL_ (some 17) rfl rfl Tryd.func97 (by kernel_rfl) rfl #[.agg #[.int .i64 a0_0, .slice A0_1 l0_1.length c0_1, .slice A0_2 l0_2.length c0_2, .int .i64 a0_3, .slice A0_4 l0_4.length c0_4, .slice A0_5 l0_5.length c0_5, .slice A0_6 l0_6.length c0_6, .bool a0_7]] rfl (by (try simp only [List.map_toArray, List.map_cons, List.map_nil]); first | done | rfl | (simp only [List.length_drop, List.length_take]; rfl)) ?_; (with_reducible refine (caesuraref14_Symbols.calls a0_0 _ _ l0_1 _ _ l0_2 a0_3 _ _ l0_4 _ _ l0_5 _ _ l0_6 a0_7 t593 _ ?side1 ?side2 ?side3 ?side4 ?side5 ?side6 ?side7 ?side8 ?side9 ?side10 A3.out).mono ?_); (case side1 => repeat (first | exact (Kd.C_below HR0_1.out HB.out) | (with_reducible refine Kd.C_alloc ?_ _) | (with_reducible refine Kd.C_drewN ?_ _) | (with_reducible refine Kd.C_drew ?_))); (case side2 => exact HC0_1.out); (case side3 => repeat (first | exact (Kd.C_below HR0_2.out HB.out) | (with_reducible refine Kd.C_alloc ?_ _) | (with_reducible refine Kd.C_drewN ?_ _) | (with_reducible refine Kd.C_drew ?_))); (case side4 => exact HC0_2.out); (case side5 => repeat (first | exact (Kd.C_below HR0_4.out HB.out) | (with_reducible refine Kd.C_alloc ?_ _) | (with_reducible refine Kd.C_drewN ?_ _) | (with_reducible refine Kd.C_drew ?_))); (case side6 => exact HC0_4.out); (case side7 => repeat (first | exact (Kd.C_below HR0_5.out HB.out) | (with_reducible refine Kd.C_alloc ?_ _) | (with_reducible refine Kd.C_drewN ?_ _) | (with_reducible refine Kd.C_drew ?_))); (case side8 => exact HC0_5.out); (case side9 => repeat (first | exact (Kd.C_below HR0_6.out HB.out) | (with_reducible refine Kd.C_alloc ?_ _) | (with_reducible refine Kd.C_drewN ?_ _) | (with_reducible refine Kd.C_drew ?_))); (case side10 => exact HC0_6.out); rintro e w8 ⟨rfl, hb⟩; refine ⟨_, rfl, ?_⟩; have n0_ := Aside0.mk (blk_below (g := gb592) (o := .cells #[.int .i64 a0_0, .slice A0_1 l0_1.length c0_1, .slice A0_2 l0_2.length c0_2, .int .i64 a0_3, .slice A0_4 l0_4.length c0_4, .slice A0_5 l0_5.length c0_5, .slice A0_6 l0_6.length c0_6, .bool a0_7] 60 (0, 0)) (by (with_reducible repeat (first | refine blk_drewN ?_ _ | refine blk_drew ?_ | refine blk_alloc ?_ _)); exact BK592.out) hb); have n1_ := Aside0.mk (below_step (by repeat (first | (with_reducible first | exact HB.out | apply below_alloc | apply pw_below_drewN | apply below_drew1 | refine below_set ?_ GE592.out) | exact HB.out)) hb); clear BK592; clear HB; have BK592 := n0_; have HB := n1_; clear n0_ n1_; (try clear hb); (try clear hb2); (try clear hk); (try clear hi); have hcz9_0 : w8.cell? ⟨gb592, 0, none⟩ = some (.int .i64 a0_0) := (blk_cell BK592.out 0).trans rfl; have hcz9_1 : w8.cell? ⟨gb592, 1, none⟩ = some (.slice A0_1 l0_1.length c0_1) := (blk_cell BK592.out 1).trans rfl; have hcz9_2 : w8.cell? ⟨gb592, 2, none⟩ = some (.slice A0_2 l0_2.length c0_2) := (blk_cell BK592.out 2).trans rfl; have hcz9_3 : w8.cell? ⟨gb592, 3, none⟩ = some (.int .i64 a0_3) := (blk_cell BK592.out 3).trans rfl; have hcz9_4 : w8.cell? ⟨gb592, 4, none⟩ = some (.slice A0_4 l0_4.length c0_4) := (blk_cell BK592.out 4).trans rfl; have hcz9_5 : w8.cell? ⟨gb592, 5, none⟩ = some (.slice A0_5 l0_5.length c0_5) := (blk_cell BK592.out 5).trans rfl; have hcz9_6 : w8.cell? ⟨gb592, 6, none⟩ = some (.slice A0_6 l0_6.length c0_6) := (blk_cell BK592.out 6).trans rfl; have hcz9_7 : w8.cell? ⟨gb592, 7, none⟩ = some (.bool a0_7) := (blk_cell BK592.out 7).trans rfl; have hfz9_0 := blk_frozen BK592.out 0; have hfz9_1 := blk_frozen BK592.out 1; have hfz9_2 := blk_frozen BK592.out 2; have hfz9_3 := blk_frozen BK592.out 3; have hfz9_4 := blk_frozen BK592.out 4; have hfz9_5 := blk_frozen BK592.out 5; have hfz9_6 := blk_frozen BK592.out 6; have hfz9_7 := blk_frozen BK592.out 7) | ((with_reducible refine gate_callee (f := 46) rfl ?_); refine goesL_ (some 20) rfl rfl Tryd.func46 (by kernel_rfl) rfl #[.agg #[.int .i64 a0_0, .slice A0_1 l0_1.length c0_1, .slice A0_2 l0_2.length c0_2, .int .i64 a0_3, .slice A0_4 l0_4.length c0_4, .slice A0_5 l0_5.length c0_5, .slice A0_6 l0_6.length c0_6, .bool a0_7], .int .i64 t593] rfl (by (try simp only [List.map_toArray, List.map_cons, List.map_nil]); first | done | rfl | (simp only [List.length_drop, List.length_take]; rfl)) ?_; (with_reducible refine (caesuraref14_Check.calls k a0_0 _ _ l0_1 _ _ l0_2 a0_3 _ _ l0_4 _ _ l0_5 _ _ l0_6 a0_7 t593 t594 _ ?side1 ?side2 ?side3 ?side4 ?side5 ?side6 ?side7 ?side8 ?side9 ?side10 A4.out).mono ?_); (case side1 => repeat (first | exact (Kd.C_below HR0_1.out HB.out) | (with_reducible refine Kd.C_alloc ?_ _) | (with_reducible refine Kd.C_drewN ?_ _) | (with_reducible refine Kd.C_drew ?_))); (case side2 => exact HC0_1.out); (case side3 => repeat (first | exact (Kd.C_below HR0_2.out HB.out) | (with_reducible refine Kd.C_alloc ?_ _) | (with_reducible refine Kd.C_drewN ?_ _) | (with_reducible refine Kd.C_drew ?_))); (case side4 => exact HC0_2.out); (case side5 => repeat (first | exact (Kd.C_below HR0_4.out HB.out) | (with_reducible refine Kd.C_alloc ?_ _) | (with_reducible refine Kd.C_drewN ?_ _) | (with_reducible refine Kd.C_drew ?_))); (case side6 => exact HC0_4.out); (case side7 => repeat (first | exact (Kd.C_below HR0_5.out HB.out) | (with_reducible refine Kd.C_alloc ?_ _) | (with_reducible refine Kd.C_drewN ?_ _) | (with_reducible refine Kd.C_drew ?_))); (case side8 => exact HC0_5.out); (case side9 => repeat (first | exact (Kd.C_below HR0_6.out HB.out) | (with_reducible refine Kd.C_alloc ?_ _) | (with_reducible refine Kd.C_drewN ?_ _) | (with_reducible refine Kd.C_drew ?_))); (case side10 => exact HC0_6.out); rintro e w10 ⟨rfl, hb⟩; refine ⟨_, rfl, ?_⟩; have n0_ := Aside0.mk (blk_below (g := gb592) (o := .cells #[.int .i64 a0_0, .slice A0_1 l0_1.length c0_1, .slice A0_2 l0_2.length c0_2, .int .i64 a0_3, .slice A0_4 l0_4.length c0_4, .slice A0_5 l0_5.length c0_5, .slice A0_6 l0_6.length c0_6, .bool a0_7] 60 (0, 0)) (by (with_reducible repeat (first | refine blk_drewN ?_ _ | refine blk_drew ?_ | refine blk_alloc ?_ _)); exact BK592.out) hb); have n1_ := Aside0.mk (below_step (by repeat (first | (with_reducible first | exact HB.out | apply below_alloc | apply pw_below_drewN | apply below_drew1 | refine below_set ?_ GE592.out) | exact HB.out)) hb); clear BK592; clear HB; have BK592 := n0_; have HB := n1_; clear n0_ n1_; (try clear hb); (try clear hb2); (try clear hk); (try clear hi)))
  go_loopg [8] k (fun kq v8 w' => ∃ (x8_1 : Int), v8 = .int .i64 x8_1 ∧ Aside0 (caesuraref14_Decide.l0 kq l1 t593 x8_1 a0_0 l0_1 l0_2 a0_3 l0_4 l0_5 l0_6 a0_7 = some (r1, r2)) ∧ Aside0 (kq ≤ k) ∧ Aside0 (w'.heap[gb592]? = some (.cells #[.int .i64 a0_0, (.slice A0_1 l0_1.length c0_1), (.slice A0_2 l0_2.length c0_2), .int .i64 a0_3, (.slice A0_4 l0_4.length c0_4), (.slice A0_5 l0_5.length c0_5), (.slice A0_6 l0_6.length c0_6), .bool a0_7] 60 (0, 0))) ∧ Aside0 (Below w.heap.size w w'))
  case atStart => exact ⟨(0), (by first | rfl | (simp; done) | (simp [*]; done)), H', ⟨Nat.le_refl _⟩, ⟨by (with_reducible repeat (first | refine blk_drewN ?_ _ | refine blk_drew ?_ | refine blk_alloc ?_ _)); exact BK592.out⟩, ⟨by repeat (first | (with_reducible first | exact HB.out | apply below_alloc | apply pw_below_drewN | apply below_drew1 | refine below_set ?_ GE592.out) | exact HB.out)⟩⟩
  case round =>
   clear H'
   try clear c1
   try clear p2
   try clear c4
   try clear c5
   try clear c5b0
   try clear c5b1
   try clear c9
   try clear hcz7_0
   try clear hcz7_1
   try clear hcz7_2
   try clear hcz7_3
   try clear hcz7_4
   try clear hcz7_5
   try clear hcz7_6
   try clear hcz7_7
   try clear hcz9_0
   try clear hcz9_1
   try clear hcz9_2
   try clear hcz9_3
   try clear hcz9_4
   try clear hcz9_5
   try clear hcz9_6
   try clear hcz9_7
   try clear hfz7_0
   try clear hfz7_1
   try clear hfz7_2
   try clear hfz7_3
   try clear hfz7_4
   try clear hfz7_5
   try clear hfz7_6
   try clear hfz7_7
   try clear hfz9_0
   try clear hfz9_1
   try clear hfz9_2
   try clear hfz9_3
   try clear hfz9_4
   try clear hfz9_5
   try clear hfz9_6
   try clear hfz9_7
   obtain ⟨x8_1, rfl, HA, HK1, BK592, HB⟩ := hrel
   cases gk with
   | zero => exact absurd HA.out (by simp [caesuraref14_Decide.l0])
   | succ k1 =>
    have H := HA.out
    clear HA
    simp only [caesuraref14_Decide.l0] at H
    by_cases c11 : x8_1 < (l1.length : Int)
    ·rw [if_pos c11] at H
     have c11b0 : decide (x8_1 < (l1.length : Int)) = true := decide_eq_true c11
     clear c11
     by_cases c12 : 0 ≤ x8_1
     ·rw [if_pos c12] at H
      have c12b0 : decide (0 ≤ x8_1) = true := decide_eq_true c12
      clear c12
      by_cases c13 : (rd l1 x8_1) < 0
      ·rw [if_pos c13] at H
       have c13b0 : decide ((rd l1 x8_1) < 0) = true := decide_eq_true c13
       clear c13
       simp only [Option.some.injEq, Prod.mk.injEq] at H
       obtain ⟨rfl, rfl⟩ := H
       have p595 : 0 ≤ (x8_1 : Int) := of_decide_eq_true (by first | (with_reducible assumption) | assumption)
       have q595 : x8_1 < (l1.length : Int) := of_decide_eq_true (by first | (with_reducible assumption) | assumption)
       obtain ⟨ad595, e595, hx595_0⟩ := Kd.at_int HR1.out x8_1 p595 q595
       cases e595
       replace hx595_0 := (HB.out.cell (World.block_lt_of_cell? w _ hx595_0)).trans hx595_0
       replace p595 := eq_true p595
       replace q595 := eq_true q595
       go_wp2
       go_ret2
       exact ⟨_, by first | rfl | (simp [errW_none, errW_some] <;> rfl) | (simp [*, errW_none, errW_some] <;> rfl), by first | exact Kd.R_nil _ _ _ _ _ | exact Kd.N_nil _ _ _ _ _ | exact Kd.V_nil _ _ _ _ _ | exact Kd.Q_nil _ _ _ _ _ | exact Kd.S_nil _ _ _ _ _, by repeat (first | (with_reducible first | exact HB.out | apply below_alloc | apply pw_below_drewN | apply below_drew1 | refine below_set ?_ GE592.out) | exact HB.out)⟩
      ·rw [if_neg c13] at H
       have c13b0 : decide ((rd l1 x8_1) < 0) = false := decide_eq_false c13
       clear c13
       by_cases c14 : (rd l1 x8_1) ≥ t593
       ·rw [if_pos c14] at H
        have c14b0 : decide (t593 ≤ (rd l1 x8_1)) = true := decide_eq_true c14
        clear c14
        simp only [Option.some.injEq, Prod.mk.injEq] at H
        obtain ⟨rfl, rfl⟩ := H
        have p595 : 0 ≤ (x8_1 : Int) := of_decide_eq_true (by first | (with_reducible assumption) | assumption)
        have q595 : x8_1 < (l1.length : Int) := of_decide_eq_true (by first | (with_reducible assumption) | assumption)
        obtain ⟨ad595, e595, hx595_0⟩ := Kd.at_int HR1.out x8_1 p595 q595
        cases e595
        replace hx595_0 := (HB.out.cell (World.block_lt_of_cell? w _ hx595_0)).trans hx595_0
        replace p595 := eq_true p595
        replace q595 := eq_true q595
        have p596 : 0 ≤ (x8_1 : Int) := of_decide_eq_true (by first | (with_reducible assumption) | assumption)
        have q596 : x8_1 < (l1.length : Int) := of_decide_eq_true (by first | (with_reducible assumption) | assumption)
        obtain ⟨ad596, e596, hx596_0⟩ := Kd.at_int HR1.out x8_1 p596 q596
        obtain rfl : ad595 = ad596 := (by injection e596)
        replace hx596_0 := (HB.out.cell (World.block_lt_of_cell? w _ hx596_0)).trans hx596_0
        replace p596 := eq_true p596
        replace q596 := eq_true q596
        go_wp2
        go_ret2
        exact ⟨_, by first | rfl | (simp [errW_none, errW_some] <;> rfl) | (simp [*, errW_none, errW_some] <;> rfl), by first | exact Kd.R_nil _ _ _ _ _ | exact Kd.N_nil _ _ _ _ _ | exact Kd.V_nil _ _ _ _ _ | exact Kd.Q_nil _ _ _ _ _ | exact Kd.S_nil _ _ _ _ _, by repeat (first | (with_reducible first | exact HB.out | apply below_alloc | apply pw_below_drewN | apply below_drew1 | refine below_set ?_ GE592.out) | exact HB.out)⟩
       ·rw [if_neg c14] at H
        have c14b0 : decide (t593 ≤ (rd l1 x8_1)) = false := decide_eq_false c14
        clear c14
        have H' := Aside0.mk H
        clear H
        have p595 : 0 ≤ (x8_1 : Int) := of_decide_eq_true (by first | (with_reducible assumption) | assumption)
        have q595 : x8_1 < (l1.length : Int) := of_decide_eq_true (by first | (with_reducible assumption) | assumption)
        obtain ⟨ad595, e595, hx595_0⟩ := Kd.at_int HR1.out x8_1 p595 q595
        cases e595
        replace hx595_0 := (HB.out.cell (World.block_lt_of_cell? w _ hx595_0)).trans hx595_0
        replace p595 := eq_true p595
        replace q595 := eq_true q595
        have p596 : 0 ≤ (x8_1 : Int) := of_decide_eq_true (by first | (with_reducible assumption) | assumption)
        have q596 : x8_1 < (l1.length : Int) := of_decide_eq_true (by first | (with_reducible assumption) | assumption)
        obtain ⟨ad596, e596, hx596_0⟩ := Kd.at_int HR1.out x8_1 p596 q596
        obtain rfl : ad595 = ad596 := (by injection e596)
        replace hx596_0 := (HB.out.cell (World.block_lt_of_cell? w _ hx596_0)).trans hx596_0
        replace p596 := eq_true p596
        replace q596 := eq_true q596
        go_wp2
        go_roundg k1
        case measure => have := HK1.out; omega
        case rel => exact ⟨(wrap64 (x8_1 + 1)), (by first | rfl | (simp; done) | (simp [*]; done)), H', ⟨by have := HK1.out; omega⟩, ⟨by (with_reducible repeat (first | refine blk_drewN ?_ _ | refine blk_drew ?_ | refine blk_alloc ?_ _)); exact BK592.out⟩, ⟨by repeat (first | (with_reducible first | exact HB.out | apply below_alloc | apply pw_below_drewN | apply below_drew1 | refine below_set ?_ GE592.out) | exact HB.out)⟩⟩
     ·rw [if_neg c12] at H
      exact absurd H (by simp)
    ·rw [if_neg c11] at H
     have c11b0 : decide (x8_1 < (l1.length : Int)) = false := decide_eq_false c11
     clear c11
     replace H := Option.bind_eq_some_iff.mp H
     obtain ⟨⟨t597, t600⟩, A150, H⟩ := H
     replace H : ((caesuraref14_turned.f k1 l1).bind fun t601 => ((caesuraref12_Run.f k1 a0_3 l0_4 l0_5 t601).bind fun bt604 => (caesuraref14_Decide.l1 k1 l1 t597 bt604.1 ([] : List Int) 1 a0_0 l0_1 l0_2 a0_3 l0_4 l0_5 l0_6 a0_7))) = some (r1, r2) := H
     have A15 := Aside0.mk A150
     clear A150
     replace H := Option.bind_eq_some_iff.mp H
     obtain ⟨t601, A160, H⟩ := H
     replace H : ((caesuraref12_Run.f k1 a0_3 l0_4 l0_5 t601).bind fun bt604 => (caesuraref14_Decide.l1 k1 l1 t597 bt604.1 ([] : List Int) 1 a0_0 l0_1 l0_2 a0_3 l0_4 l0_5 l0_6 a0_7)) = some (r1, r2) := H
     have A16 := Aside0.mk A160
     clear A160
     replace H := Option.bind_eq_some_iff.mp H
     obtain ⟨⟨t604, t607⟩, A170, H⟩ := H
     replace H : (caesuraref14_Decide.l1 k1 l1 t597 t604 ([] : List Int) 1 a0_0 l0_1 l0_2 a0_3 l0_4 l0_5 l0_6 a0_7) = some (r1, r2) := H
     have A17 := Aside0.mk A170
     clear A170
     have H' := Aside0.mk H
     clear H
     have hcz18_0 : wr.cell? ⟨gb592, 0, none⟩ = some (.int .i64 a0_0) := (blk_cell BK592.out 0).trans rfl
     have hcz18_1 : wr.cell? ⟨gb592, 1, none⟩ = some (.slice A0_1 l0_1.length c0_1) := (blk_cell BK592.out 1).trans rfl
     have hcz18_2 : wr.cell? ⟨gb592, 2, none⟩ = some (.slice A0_2 l0_2.length c0_2) := (blk_cell BK592.out 2).trans rfl
     have hcz18_3 : wr.cell? ⟨gb592, 3, none⟩ = some (.int .i64 a0_3) := (blk_cell BK592.out 3).trans rfl
     have hcz18_4 : wr.cell? ⟨gb592, 4, none⟩ = some (.slice A0_4 l0_4.length c0_4) := (blk_cell BK592.out 4).trans rfl
     have hcz18_5 : wr.cell? ⟨gb592, 5, none⟩ = some (.slice A0_5 l0_5.length c0_5) := (blk_cell BK592.out 5).trans rfl
     have hcz18_6 : wr.cell? ⟨gb592, 6, none⟩ = some (.slice A0_6 l0_6.length c0_6) := (blk_cell BK592.out 6).trans rfl
     have hcz18_7 : wr.cell? ⟨gb592, 7, none⟩ = some (.bool a0_7) := (blk_cell BK592.out 7).trans rfl
     have hfz18_0 := blk_frozen BK592.out 0
     have hfz18_1 := blk_frozen BK592.out 1
     have hfz18_2 := blk_frozen BK592.out 2
     have hfz18_3 := blk_frozen BK592.out 3
     have hfz18_4 := blk_frozen BK592.out 4
     have hfz18_5 := blk_frozen BK592.out 5
     have hfz18_6 := blk_frozen BK592.out 6
     have hfz18_7 := blk_frozen BK592.out 7
     try go_wp2_with (first | ((with_reducible refine gate_callee (f := 98) rfl ?_); refine goesL_ (some 46) rfl rfl Tryd.func98 (by kernel_rfl) rfl #[.agg #[.int .i64 a0_0, .slice A0_1 l0_1.length c0_1, .slice A0_2 l0_2.length c0_2], .slice A1 l1.length c1] rfl (by (try simp only [List.map_toArray, List.map_cons, List.map_nil]); first | done | rfl | (simp only [List.length_drop, List.length_take]; rfl)) ?_; (with_reducible refine (caesuraref12_Run.calls k1 a0_0 _ _ l0_1 _ _ l0_2 _ _ l1 t597 t600 _ ?side1 ?side2 ?side3 ?side4 ?side5 ?side6 A15.out).mono ?_); (case side1 => repeat (first | exact (Kd.C_below HR0_1.out HB.out) | (with_reducible refine Kd.C_alloc ?_ _) | (with_reducible refine Kd.C_drewN ?_ _) | (with_reducible refine Kd.C_drew ?_))); (case side2 => exact HC0_1.out); (case side3 => repeat (first | exact (Kd.C_below HR0_2.out HB.out) | (with_reducible refine Kd.C_alloc ?_ _) | (with_reducible refine Kd.C_drewN ?_ _) | (with_reducible refine Kd.C_drew ?_))); (case side4 => exact HC0_2.out); (case side5 => repeat (first | exact (Kd.C_below HR1.out HB.out) | (with_reducible refine Kd.C_alloc ?_ _) | (with_reducible refine Kd.C_drewN ?_ _) | (with_reducible refine Kd.C_drew ?_))); (case side6 => exact HC1.out); rintro e w19 ⟨v598, rfl, ho0, hb⟩; refine ⟨_, rfl, ?_⟩; have n0_ := Aside0.mk (Kd.R_lower ho0 (below_size (by repeat (first | (with_reducible first | exact HB.out | apply below_alloc | apply pw_below_drewN | apply below_drew1 | refine below_set ?_ GE592.out) | exact HB.out)))); have n1_ := Aside0.mk (blk_below (g := gb592) (o := .cells #[.int .i64 a0_0, .slice A0_1 l0_1.length c0_1, .slice A0_2 l0_2.length c0_2, .int .i64 a0_3, .slice A0_4 l0_4.length c0_4, .slice A0_5 l0_5.length c0_5, .slice A0_6 l0_6.length c0_6, .bool a0_7] 60 (0, 0)) (by (with_reducible repeat (first | refine blk_drewN ?_ _ | refine blk_drew ?_ | refine blk_alloc ?_ _)); exact BK592.out) hb); have n2_ := Aside0.mk (below_step (by repeat (first | (with_reducible first | exact HB.out | apply below_alloc | apply pw_below_drewN | apply below_drew1 | refine below_set ?_ GE592.out) | exact HB.out)) hb); clear BK592; clear HB; have HO599 := n0_; have BK592 := n1_; have HB := n2_; clear n0_ n1_ n2_; (try clear hb); (try clear hb2); (try clear hk); (try clear hi); (try clear ho0)))
     have n0_ := Aside0.mk (Kd.R_drew HO599.out)
     have n1_ := Aside0.mk (blk_drew BK592.out)
     have n2_ := Aside0.mk (below_drew1 HB.out)
     clear HO599
     clear BK592
     clear HB
     have HO599 := n0_
     have BK592 := n1_
     have HB := n2_
     clear n0_ n1_ n2_
     refine start_ (n := 10) (S := fun w' => w'.cell? ⟨gb592, 0, none⟩ = some (.int .i64 a0_0) ∧ w'.cell? ⟨gb592, 1, none⟩ = some (.slice A0_1 l0_1.length c0_1) ∧ w'.cell? ⟨gb592, 2, none⟩ = some (.slice A0_2 l0_2.length c0_2) ∧ w'.cell? ⟨gb592, 3, none⟩ = some (.int .i64 a0_3) ∧ w'.cell? ⟨gb592, 4, none⟩ = some (.slice A0_4 l0_4.length c0_4) ∧ w'.cell? ⟨gb592, 5, none⟩ = some (.slice A0_5 l0_5.length c0_5) ∧ w'.cell? ⟨gb592, 6, none⟩ = some (.slice A0_6 l0_6.length c0_6) ∧ w'.cell? ⟨gb592, 7, none⟩ = some (.bool a0_7)) (ds := []) #[false, false, false, false, false, false, false, false, false, false] (by kernel_rfl) rfl rfl ⟨(blk_cell BK592.out 0).trans rfl, (blk_cell BK592.out 1).trans rfl, (blk_cell BK592.out 2).trans rfl, (blk_cell BK592.out 3).trans rfl, (blk_cell BK592.out 4).trans rfl, (blk_cell BK592.out 5).trans rfl, (blk_cell BK592.out 6).trans rfl, (blk_cell BK592.out 7).trans rfl⟩ (fun hHeld => ?_); refine with_tabW caesuraref14_Decide.tab11 caesuraref14_Decide.bits11 (fun HT_ HW_ => ?_)
     generalize w19.drew = w20 at HO599 BK592 HB hHeld ⊢
     refine pure_ (i := 0) (N := some 50) (v := ?_) (a' := ?_) #[true, false, false, false, false, false, false, false, false, false] rfl rfl (any_of HT_.out (by kernel_rfl)) (fun _ _ _ h => h) (Or.inl ⟨by rfl, ?_⟩) ?_ ?_
     rotate_left
     ·intro w'
      go_simp
      with_reducible rfl
     rotate_left
     ·simp only [Act.put, List.setIfInBounds_toArray, List.set_cons_zero, List.set_cons_succ, i64_w, i32_w]
      rfl
     refine pure_ (i := 2) (N := some 52) (v := ?_) (a' := ?_) #[true, false, true, false, false, false, false, false, false, false] rfl rfl (any_of HT_.out (by kernel_rfl)) (fun _ _ _ h => h) (Or.inl ⟨by rfl, ?_⟩) ?_ ?_
     rotate_left
     ·intro w'
      go_simp
      with_reducible rfl
     rotate_left
     ·simp only [Act.put, List.setIfInBounds_toArray, List.set_cons_zero, List.set_cons_succ, i64_w, i32_w]
      rfl
     refine take_ (i := 1) (N := some 51) (v := ?_) (a' := ?_) #[true, true, true, false, false, false, false, false, false, false] rfl rfl (take_ofW HT_.out HW_.out (by kernel_rfl)) (fun _ _ _ h => h) (Or.inl ⟨by rfl, ?_⟩) hHeld ?_ ?_
     rotate_left
     ·rintro w' ⟨s0, s1, s2, s3, s4, s5, s6, s7⟩
      go_simp
      with_reducible rfl
     rotate_left
     ·simp only [Act.put, List.setIfInBounds_toArray, List.set_cons_zero, List.set_cons_succ, i64_w, i32_w]
      rfl
     refine one_ (i := 3) (N := some 53) #[true, true, true, true, false, false, false, false, false, false] rfl rfl (one_of HT_.out (by kernel_rfl)) (by decide) (fun K hK => ?_)
     refine goes_ Tryd.func99 (by kernel_rfl) rfl #[.slice A1 l1.length c1] (by rfl) rfl rfl (by (try simp only [List.map_toArray, List.map_cons, List.map_nil]); first | done | rfl | (simp only [List.length_drop, List.length_take]; rfl)) ?_
     with_reducible refine (caesuraref14_turned.calls k1 _ _ l1 t601 _ ?side1 ?side2 A16.out).mono ?_
     (case side1 => repeat (first | exact (Kd.C_below HR1.out HB.out) | (with_reducible refine Kd.C_alloc ?_ _) | (with_reducible refine Kd.C_drewN ?_ _) | (with_reducible refine Kd.C_drew ?_)))
     (case side2 => exact HC1.out)
     rintro e w21 ⟨v602, rfl, ho0, hb⟩
     refine ⟨_, rfl, ?_⟩
     have n0_ := Aside0.mk (Kd.R_elder' (by (with_reducible repeat (first | apply Kd.R_alloc | apply Kd.R_drewN | apply Kd.R_drew)); exact HO599.out) (Kd.R_base ho0) hb)
     have n1_ := Aside0.mk (Kd.R_lower (Kd.R_new' ho0 (Kd.R_lt (by (with_reducible repeat (first | apply Kd.R_alloc | apply Kd.R_drewN | apply Kd.R_drew)); exact HO599.out))) (below_size (by repeat (first | (with_reducible first | exact HB.out | apply below_alloc | apply pw_below_drewN | apply below_drew1 | refine below_set ?_ GE592.out) | exact HB.out))))
     have n2_ := Aside0.mk (blk_below (g := gb592) (o := .cells #[.int .i64 a0_0, .slice A0_1 l0_1.length c0_1, .slice A0_2 l0_2.length c0_2, .int .i64 a0_3, .slice A0_4 l0_4.length c0_4, .slice A0_5 l0_5.length c0_5, .slice A0_6 l0_6.length c0_6, .bool a0_7] 60 (0, 0)) (by (with_reducible repeat (first | refine blk_drewN ?_ _ | refine blk_drew ?_ | refine blk_alloc ?_ _)); exact BK592.out) hb)
     have n3_ := Aside0.mk (below_step (by repeat (first | (with_reducible first | exact HB.out | apply below_alloc | apply pw_below_drewN | apply below_drew1 | refine below_set ?_ GE592.out) | exact HB.out)) hb)
     clear HO599
     clear BK592
     clear HB
     have HO599 := n0_
     have HO603 := n1_
     have BK592 := n2_
     have HB := n3_
     clear n0_ n1_ n2_ n3_
     (try clear hb)
     (try clear hb2)
     (try clear hk)
     (try clear hi)
     (try clear ho0)
     obtain ⟨Ao22, co22, eo22⟩ := Kd.R_slice HO603.out
     (first | subst eo22 | (injection eo22 with f1_ f2_ f3_; have f4_ := f1_.symm; have f5_ := f3_.symm; clear f1_ f2_ f3_; subst f4_; subst f5_))
     refine hK.out _ _ ⟨(blk_cell BK592.out 0).trans rfl, (blk_cell BK592.out 1).trans rfl, (blk_cell BK592.out 2).trans rfl, (blk_cell BK592.out 3).trans rfl, (blk_cell BK592.out 4).trans rfl, (blk_cell BK592.out 5).trans rfl, (blk_cell BK592.out 6).trans rfl, (blk_cell BK592.out 7).trans rfl⟩ (fun hHeld => ?_)
     clear hK K
     refine norm_ (a' := ?_) ?_ ?_
     rotate_left
     ·show Act.put _ (some 53) _ = _
      simp only [Act.put, List.setIfInBounds_toArray, List.set_cons_zero, List.set_cons_succ, i64_w, i32_w]
      rfl
     refine one_ (i := 4) (N := some 54) #[true, true, true, true, true, false, false, false, false, false] rfl rfl (one_of HT_.out (by kernel_rfl)) (by decide) (fun K hK => ?_)
     refine goes_ Tryd.func98 (by kernel_rfl) rfl #[.agg #[.int .i64 a0_3, .slice A0_4 l0_4.length c0_4, .slice A0_5 l0_5.length c0_5], .slice Ao22 t601.length co22] (by rfl) rfl rfl (by (try simp only [List.map_toArray, List.map_cons, List.map_nil]); first | done | rfl | (simp only [List.length_drop, List.length_take]; rfl)) ?_
     with_reducible refine (caesuraref12_Run.calls k1 a0_3 _ _ l0_4 _ _ l0_5 _ _ t601 t604 t607 _ ?side1 ?side2 ?side3 ?side4 ?side5 ?side6 A17.out).mono ?_
     (case side1 => repeat (first | exact (Kd.C_below HR0_4.out HB.out) | (with_reducible refine Kd.C_alloc ?_ _) | (with_reducible refine Kd.C_drewN ?_ _) | (with_reducible refine Kd.C_drew ?_)))
     (case side2 => exact HC0_4.out)
     (case side3 => repeat (first | exact (Kd.C_below HR0_5.out HB.out) | (with_reducible refine Kd.C_alloc ?_ _) | (with_reducible refine Kd.C_drewN ?_ _) | (with_reducible refine Kd.C_drew ?_)))
     (case side4 => exact HC0_5.out)
     (case side5 => repeat (first | exact (Kd.R_reads' HO603.out).2.2 | (with_reducible refine Kd.C_alloc ?_ _) | (with_reducible refine Kd.C_drewN ?_ _) | (with_reducible refine Kd.C_drew ?_)))
     (case side6 => exact (Kd.R_reads' HO603.out).2.1)
     rintro e w23 ⟨v605, rfl, ho0, hb⟩
     refine ⟨_, rfl, ?_⟩
     have n0_ := Aside0.mk (Kd.R_elder' (by (with_reducible repeat (first | apply Kd.R_alloc | apply Kd.R_drewN | apply Kd.R_drew)); exact HO599.out) (Kd.R_base ho0) hb)
     have n1_ := Aside0.mk (Kd.R_elder' (by (with_reducible repeat (first | apply Kd.R_alloc | apply Kd.R_drewN | apply Kd.R_drew)); exact HO603.out) (Kd.R_base ho0) hb)
     have n2_ := Aside0.mk (Kd.R_lower (Kd.R_new' (Kd.R_new' ho0 (Kd.R_lt (by (with_reducible repeat (first | apply Kd.R_alloc | apply Kd.R_drewN | apply Kd.R_drew)); exact HO599.out))) (Kd.R_lt (by (with_reducible repeat (first | apply Kd.R_alloc | apply Kd.R_drewN | apply Kd.R_drew)); exact HO603.out))) (below_size (by repeat (first | (with_reducible first | exact HB.out | apply below_alloc | apply pw_below_drewN | apply below_drew1 | refine below_set ?_ GE592.out) | exact HB.out))))
     have n3_ := Aside0.mk (blk_below (g := gb592) (o := .cells #[.int .i64 a0_0, .slice A0_1 l0_1.length c0_1, .slice A0_2 l0_2.length c0_2, .int .i64 a0_3, .slice A0_4 l0_4.length c0_4, .slice A0_5 l0_5.length c0_5, .slice A0_6 l0_6.length c0_6, .bool a0_7] 60 (0, 0)) (by (with_reducible repeat (first | refine blk_drewN ?_ _ | refine blk_drew ?_ | refine blk_alloc ?_ _)); exact BK592.out) hb)
     have n4_ := Aside0.mk (below_step (by repeat (first | (with_reducible first | exact HB.out | apply below_alloc | apply pw_below_drewN | apply below_drew1 | refine below_set ?_ GE592.out) | exact HB.out)) hb)
     clear HO599
     clear HO603
     clear BK592
     clear HB
     have HO599 := n0_
     have HO603 := n1_
     have HO606 := n2_
     have BK592 := n3_
     have HB := n4_
     clear n0_ n1_ n2_ n3_ n4_
     (try clear hb)
     (try clear hb2)
     (try clear hk)
     (try clear hi)
     (try clear ho0)
     refine hK.out _ _ ⟨(blk_cell BK592.out 0).trans rfl, (blk_cell BK592.out 1).trans rfl, (blk_cell BK592.out 2).trans rfl, (blk_cell BK592.out 3).trans rfl, (blk_cell BK592.out 4).trans rfl, (blk_cell BK592.out 5).trans rfl, (blk_cell BK592.out 6).trans rfl, (blk_cell BK592.out 7).trans rfl⟩ (fun hHeld => ?_)
     clear hK K
     refine norm_ (a' := ?_) ?_ ?_
     rotate_left
     ·show Act.put _ (some 54) _ = _
      simp only [Act.put, List.setIfInBounds_toArray, List.set_cons_zero, List.set_cons_succ, i64_w, i32_w]
      rfl
     refine pure_ (i := 5) (N := some 49) (v := ?_) (a' := ?_) #[true, true, true, true, true, true, false, false, false, false] rfl rfl (any_of HT_.out (by kernel_rfl)) (fun _ _ _ h => h) (Or.inl ⟨by rfl, ?_⟩) ?_ ?_
     rotate_left
     ·intro w'
      go_simp
      with_reducible rfl
     rotate_left
     ·simp only [Act.put, List.setIfInBounds_toArray, List.set_cons_zero, List.set_cons_succ, i64_w, i32_w]
      rfl
     refine pure_ (i := 6) (N := some 55) (v := ?_) (a' := ?_) #[true, true, true, true, true, true, true, false, false, false] rfl rfl (any_of HT_.out (by kernel_rfl)) (fun _ _ _ h => h) (Or.inl ⟨by rfl, ?_⟩) ?_ ?_
     rotate_left
     ·intro w'
      go_simp
      with_reducible rfl
     rotate_left
     ·simp only [Act.put, List.setIfInBounds_toArray, List.set_cons_zero, List.set_cons_succ, i64_w, i32_w]
      rfl
     refine pure_ (i := 7) (N := some 56) (v := ?_) (a' := ?_) #[true, true, true, true, true, true, true, true, false, false] rfl rfl (any_of HT_.out (by kernel_rfl)) (fun _ _ _ h => h) (Or.inl ⟨by rfl, ?_⟩) ?_ ?_
     rotate_left
     ·intro w'
      go_simp
      with_reducible rfl
     rotate_left
     ·simp only [Act.put, List.setIfInBounds_toArray, List.set_cons_zero, List.set_cons_succ, i64_w, i32_w]
      rfl
     refine pure_ (i := 8) (N := some 11) (v := ?_) (a' := ?_) #[true, true, true, true, true, true, true, true, true, false] rfl rfl (any_of HT_.out (by kernel_rfl)) (fun _ _ _ h => h) (Or.inl ⟨by rfl, ?_⟩) ?_ ?_
     rotate_left
     ·intro w'
      go_simp
      with_reducible rfl
     rotate_left
     ·simp only [Act.put, List.setIfInBounds_toArray, List.set_cons_zero, List.set_cons_succ, i64_w, i32_w]
      rfl
     refine pure_ (i := 9) (N := some 12) (v := ?_) (a' := ?_) #[true, true, true, true, true, true, true, true, true, true] rfl rfl (any_of HT_.out (by kernel_rfl)) (fun _ _ _ h => h) (Or.inl ⟨by rfl, ?_⟩) ?_ ?_
     rotate_left
     ·intro w'
      go_simp
      with_reducible rfl
     rotate_left
     ·simp only [Act.put, List.setIfInBounds_toArray, List.set_cons_zero, List.set_cons_succ, i64_w, i32_w]
      rfl
     refine done_ (done_of HT_.out (by kernel_rfl)) ?_
     try go_wp2
     go_loopg [13, 14] k1 (fun kq v13 v14 w' => ∃ (x13_2 : List Int) (x14_2 : Int), v14 = .int .i64 x14_2 ∧ Aside0 (caesuraref14_Decide.l1 kq l1 t597 t604 x13_2 x14_2 a0_0 l0_1 l0_2 a0_3 l0_4 l0_5 l0_6 a0_7 = some (r1, r2)) ∧ Aside0 (kq ≤ k1) ∧ Aside0 (Kd.R (Kd.int .i64) 3 w' w.heap.size (fun k_ => some k_ ≠ (v605 : Value).ownBlock ∧ some k_ ≠ (v13 : Value).ownBlock) v598 t597) ∧ Aside0 (Kd.R (Kd.int .i64) 3 w' w.heap.size (fun k_ => some k_ ≠ (v598 : Value).ownBlock ∧ some k_ ≠ (v13 : Value).ownBlock) v605 t604) ∧ Aside0 (Kd.R (Kd.int .i64) 3 w' w.heap.size (fun k_ => some k_ ≠ (v598 : Value).ownBlock ∧ some k_ ≠ (v605 : Value).ownBlock) v13 x13_2) ∧ Aside0 (w'.heap[gb592]? = some (.cells #[.int .i64 a0_0, (.slice A0_1 l0_1.length c0_1), (.slice A0_2 l0_2.length c0_2), .int .i64 a0_3, (.slice A0_4 l0_4.length c0_4), (.slice A0_5 l0_5.length c0_5), (.slice A0_6 l0_6.length c0_6), .bool a0_7] 60 (0, 0))) ∧ Aside0 (Below w.heap.size w w'))
     case atStart => exact ⟨(([] : List Int)), (1), (by first | rfl | (simp; done) | (simp [*]; done)), H', ⟨Nat.le_refl _⟩, ⟨by (with_reducible repeat (first | apply Kd.R_alloc | apply Kd.R_drewN | apply Kd.R_drew)); exact Kd.R_mono HO599.out (fun _ hk => ⟨hk.2, (by simp [Value.ownBlock])⟩)⟩, ⟨by (with_reducible repeat (first | apply Kd.R_alloc | apply Kd.R_drewN | apply Kd.R_drew)); exact Kd.R_mono HO606.out (fun _ hk => ⟨hk.1.2, (by simp [Value.ownBlock])⟩)⟩, ⟨by first | exact Kd.R_nil _ _ _ _ _ | exact Kd.N_nil _ _ _ _ _ | exact Kd.V_nil _ _ _ _ _ | exact Kd.Q_nil _ _ _ _ _ | exact Kd.S_nil _ _ _ _ _⟩, ⟨by (with_reducible repeat (first | refine blk_drewN ?_ _ | refine blk_drew ?_ | refine blk_alloc ?_ _)); exact BK592.out⟩, ⟨by repeat (first | (with_reducible first | exact HB.out | apply below_alloc | apply pw_below_drewN | apply below_drew1 | refine below_set ?_ GE592.out) | exact HB.out)⟩⟩
     case round =>
      clear H'
      try clear c1
      try clear p2
      try clear c4
      try clear c5
      try clear c5b0
      try clear c5b1
      try clear p5
      try clear q5
      try clear hx5
      try clear p6
      try clear c9
      try clear c11
      try clear c11b0
      try clear c12
      try clear c12b0
      try clear c13
      try clear c13b0
      try clear c14
      try clear c14b0
      try clear hcz18_0
      try clear hcz18_1
      try clear hcz18_2
      try clear hcz18_3
      try clear hcz18_4
      try clear hcz18_5
      try clear hcz18_6
      try clear hcz18_7
      try clear hcz7_0
      try clear hcz7_1
      try clear hcz7_2
      try clear hcz7_3
      try clear hcz7_4
      try clear hcz7_5
      try clear hcz7_6
      try clear hcz7_7
      try clear hcz9_0
      try clear hcz9_1
      try clear hcz9_2
      try clear hcz9_3
      try clear hcz9_4
      try clear hcz9_5
      try clear hcz9_6
      try clear hcz9_7
      try clear hfz18_0
      try clear hfz18_1
      try clear hfz18_2
      try clear hfz18_3
      try clear hfz18_4
      try clear hfz18_5
      try clear hfz18_6
      try clear hfz18_7
      try clear hfz7_0
      try clear hfz7_1
      try clear hfz7_2
      try clear hfz7_3
      try clear hfz7_4
      try clear hfz7_5
      try clear hfz7_6
      try clear hfz7_7
      try clear hfz9_0
      try clear hfz9_1
      try clear hfz9_2
      try clear hfz9_3
      try clear hfz9_4
      try clear hfz9_5
      try clear hfz9_6
      try clear hfz9_7
      try clear hx595_0
      try clear hx596_0
      try clear p2
      try clear p595
      try clear p596
      try clear q595
      try clear q596
      obtain ⟨x13_2, x14_2, rfl, HA, HK2, HO_9, HO_11, HO_13, BK592, HB⟩ := hrel
      cases gk with
      | zero => exact absurd HA.out (by simp [caesuraref14_Decide.l1])
      | succ k2 =>
       have H := HA.out
       clear HA
       simp only [caesuraref14_Decide.l1] at H
       by_cases c24 : x14_2 < (l1.length : Int)
       ·rw [if_pos c24] at H
        have c24b0 : decide (x14_2 < (l1.length : Int)) = true := decide_eq_true c24
        clear c24
        by_cases c25 : 0 ≤ x14_2
        ·rw [if_pos c25] at H
         have c25b0 : decide (0 ≤ x14_2) = true := decide_eq_true c25
         clear c25
         by_cases c26 : x14_2 < (t597.length : Int)
         ·rw [if_pos c26] at H
          have c26b0 : decide (x14_2 < (t597.length : Int)) = true := decide_eq_true c26
          clear c26
          by_cases c27 : 0 ≤ (rd t597 x14_2)
          ·rw [if_pos c27] at H
           have c27b0 : decide (0 ≤ (rd t597 x14_2)) = true := decide_eq_true c27
           clear c27
           by_cases c28 : (rd t597 x14_2) < (l0_2.length : Int)
           ·rw [if_pos c28] at H
            have c28b0 : decide ((rd t597 x14_2) < (l0_2.length : Int)) = true := decide_eq_true c28
            clear c28
            obtain ⟨ji29, hji29⟩ : ∃ j_ : Int, (wrap64 ((l1.length : Int) - x14_2)) = j_ := ⟨_, rfl⟩
            replace H : (if 0 ≤ (ji29) then (if (ji29) < (t604.length : Int) then (if 0 ≤ (rd t604 (ji29)) then (if (rd t604 (ji29)) < (l0_5.length : Int) then ((caesuraref14_Least.f k2 (rd_L1 l0_2 (rd t597 x14_2)) (rd_L1 l0_5 (rd t604 (ji29)))).bind fun t612 => (if x13_2.length < 17592186044416 then (caesuraref14_Decide.l1 k2 l1 t597 t604 (x13_2 ++ [t612]) (wrap64 (x14_2 + 1)) a0_0 l0_1 l0_2 a0_3 l0_4 l0_5 l0_6 a0_7) else (none))) else (none)) else (none)) else (none)) else (none)) = some (r1, r2) := by first | (rw [hji29] at H; exact H) | (simp only [hji29] at H ⊢; exact H)
            have hji29w : (IntKind.i64.wrap ((l1.length : Int) - x14_2)) = ji29 := (i64_w _).trans hji29
            by_cases c30 : 0 ≤ (ji29)
            ·rw [if_pos c30] at H
             have c30b0 : decide (0 ≤ (ji29)) = true := decide_eq_true c30
             clear c30
             by_cases c31 : (ji29) < (t604.length : Int)
             ·rw [if_pos c31] at H
              have c31b0 : decide ((ji29) < (t604.length : Int)) = true := decide_eq_true c31
              clear c31
              by_cases c32 : 0 ≤ (rd t604 (ji29))
              ·rw [if_pos c32] at H
               have c32b0 : decide (0 ≤ (rd t604 (ji29))) = true := decide_eq_true c32
               clear c32
               by_cases c33 : (rd t604 (ji29)) < (l0_5.length : Int)
               ·rw [if_pos c33] at H
                have c33b0 : decide ((rd t604 (ji29)) < (l0_5.length : Int)) = true := decide_eq_true c33
                clear c33
                replace H := Option.bind_eq_some_iff.mp H
                obtain ⟨t612, A340, H⟩ := H
                replace H : (if x13_2.length < 17592186044416 then (caesuraref14_Decide.l1 k2 l1 t597 t604 (x13_2 ++ [t612]) (wrap64 (x14_2 + 1)) a0_0 l0_1 l0_2 a0_3 l0_4 l0_5 l0_6 a0_7) else (none)) = some (r1, r2) := H
                have A34 := Aside0.mk A340
                clear A340
                by_cases c35 : x13_2.length < 17592186044416
                ·rw [if_pos c35] at H
                 have LMc35 := Aside0.mk c35
                 clear c35
                 obtain ⟨y613, hy613⟩ : ∃ y_ : List Int, y_ = (x13_2 ++ [t612]) := ⟨_, rfl⟩
                 replace H : (caesuraref14_Decide.l1 k2 l1 t597 t604 y613 (wrap64 (x14_2 + 1)) a0_0 l0_1 l0_2 a0_3 l0_4 l0_5 l0_6 a0_7) = some (r1, r2) := by first | (rw [hy613]; with_reducible exact H) | (have H2_ := (Option.bind_some _ _).symm.trans H; rw [hy613]; with_reducible exact H2_) | (have H2_ := (Option.bind_some _ _).symm.trans H; with_reducible exact H2_) | with_reducible exact H | (rw [hy613]; exact H) | exact H
                 have Ny613 := Aside0.mk hy613
                 clear hy613
                 have H' := Aside0.mk H
                 clear H
                 try go_wp2
                 have n0_ := Aside0.mk (Kd.R_drew HO_9.out)
                 have n1_ := Aside0.mk (Kd.R_drew HO_11.out)
                 have n2_ := Aside0.mk (Kd.R_drew HO_13.out)
                 have n3_ := Aside0.mk (blk_drew BK592.out)
                 have n4_ := Aside0.mk (below_drew1 HB.out)
                 clear HO_9
                 clear HO_11
                 clear HO_13
                 clear BK592
                 clear HB
                 have HO_9 := n0_
                 have HO_11 := n1_
                 have HO_13 := n2_
                 have BK592 := n3_
                 have HB := n4_
                 clear n0_ n1_ n2_ n3_ n4_
                 obtain ⟨Ao37, co37, eo37⟩ := Kd.R_slice HO_9.out
                 (first | subst eo37 | (injection eo37 with f1_ f2_ f3_; have f4_ := f1_.symm; have f5_ := f3_.symm; clear f1_ f2_ f3_; subst f4_; subst f5_))
                 have p608 : 0 ≤ (x14_2 : Int) := of_decide_eq_true (by first | (with_reducible assumption) | assumption)
                 have q608 : x14_2 < (t597.length : Int) := of_decide_eq_true (by first | (with_reducible assumption) | assumption)
                 obtain ⟨ad608, e608, hx608_0⟩ := Kd.at_int (Kd.R_reads' HO_9.out).2.2 x14_2 p608 q608
                 cases e608
                 replace p608 := eq_true p608
                 replace q608 := eq_true q608
                 have p609 : 0 ≤ ((rd t597 x14_2) : Int) := of_decide_eq_true (by first | (with_reducible assumption) | assumption)
                 have q609 : (rd t597 x14_2) < (l0_2.length : Int) := of_decide_eq_true (by first | (with_reducible assumption) | assumption)
                 obtain ⟨ad609, A609_0, c609_0, e609, hx609_0, hl609_0, hi609_0⟩ := at_L1 HR0_2.out (rd t597 x14_2) p609 q609
                 have hw609_0 := hx609_0
                 cases e609
                 replace hx609_0 := (HB.out.cell (World.block_lt_of_cell? w _ hx609_0)).trans hx609_0
                 have HR609_0 := Aside0.mk hi609_0
                 have HC609_0 := Aside0.mk hl609_0
                 clear hi609_0 hl609_0
                 replace p609 := eq_true p609
                 replace q609 := eq_true q609
                 obtain ⟨Ao38, co38, eo38⟩ := Kd.R_slice HO_11.out
                 (first | subst eo38 | (injection eo38 with f1_ f2_ f3_; have f4_ := f1_.symm; have f5_ := f3_.symm; clear f1_ f2_ f3_; subst f4_; subst f5_))
                 have p610 : 0 ≤ ((ji29) : Int) := of_decide_eq_true (by first | (with_reducible assumption) | assumption)
                 have q610 : (ji29) < (t604.length : Int) := of_decide_eq_true (by first | (with_reducible assumption) | assumption)
                 obtain ⟨ad610, e610, hx610_0⟩ := Kd.at_int (Kd.R_reads' HO_11.out).2.2 (ji29) p610 q610
                 cases e610
                 replace p610 := eq_true p610
                 replace q610 := eq_true q610
                 have p611 : 0 ≤ ((rd t604 (ji29)) : Int) := of_decide_eq_true (by first | (with_reducible assumption) | assumption)
                 have q611 : (rd t604 (ji29)) < (l0_5.length : Int) := of_decide_eq_true (by first | (with_reducible assumption) | assumption)
                 obtain ⟨ad611, A611_0, c611_0, e611, hx611_0, hl611_0, hi611_0⟩ := at_L1 HR0_5.out (rd t604 (ji29)) p611 q611
                 have hw611_0 := hx611_0
                 cases e611
                 replace hx611_0 := (HB.out.cell (World.block_lt_of_cell? w _ hx611_0)).trans hx611_0
                 have HR611_0 := Aside0.mk hi611_0
                 have HC611_0 := Aside0.mk hl611_0
                 clear hi611_0 hl611_0
                 replace p611 := eq_true p611
                 replace q611 := eq_true q611
                 refine start_ (n := 23) (S := fun w' => w'.cell? ⟨gb592, 0, none⟩ = some (.int .i64 a0_0) ∧ w'.cell? ⟨gb592, 1, none⟩ = some (.slice A0_1 l0_1.length c0_1) ∧ w'.cell? ⟨gb592, 2, none⟩ = some (.slice (some ad609) l0_2.length c0_2) ∧ w'.cell? ⟨gb592, 3, none⟩ = some (.int .i64 a0_3) ∧ w'.cell? ⟨gb592, 4, none⟩ = some (.slice A0_4 l0_4.length c0_4) ∧ w'.cell? ⟨gb592, 5, none⟩ = some (.slice (some ad611) l0_5.length c0_5) ∧ w'.cell? ⟨gb592, 6, none⟩ = some (.slice A0_6 l0_6.length c0_6) ∧ w'.cell? ⟨gb592, 7, none⟩ = some (.bool a0_7) ∧ w'.cell? (ad608.add (x14_2).toNat) = some (.int .i64 (rd t597 x14_2)) ∧ w'.cell? (ad609.add ((rd t597 x14_2)).toNat) = some (.slice A609_0 (rd_L1 l0_2 (rd t597 x14_2)).length c609_0) ∧ w'.cell? (ad610.add ((ji29)).toNat) = some (.int .i64 (rd t604 (ji29))) ∧ w'.cell? (ad611.add ((rd t604 (ji29))).toNat) = some (.slice A611_0 (rd_L1 l0_5 (rd t604 (ji29))).length c611_0)) (ds := []) #[false, false, false, false, false, false, false, false, false, false, false, false, false, false, false, false, false, false, false, false, false, false, false] (by kernel_rfl) rfl rfl ⟨(blk_cell BK592.out 0).trans rfl, (blk_cell BK592.out 1).trans rfl, (blk_cell BK592.out 2).trans rfl, (blk_cell BK592.out 3).trans rfl, (blk_cell BK592.out 4).trans rfl, (blk_cell BK592.out 5).trans rfl, (blk_cell BK592.out 6).trans rfl, (blk_cell BK592.out 7).trans rfl, hx608_0, ((HB.out.cell (World.block_lt_of_cell? w _ hw609_0)).trans hw609_0), hx610_0, ((HB.out.cell (World.block_lt_of_cell? w _ hw611_0)).trans hw611_0)⟩ (fun hHeld => ?_); refine with_tabW caesuraref14_Decide.tab16 caesuraref14_Decide.bits16 (fun HT_ HW_ => ?_)
                 generalize wr.drew = w36 at HO_9 HO_11 HO_13 BK592 HB HR609_0 HR611_0 hx608_0 hx609_0 hx610_0 hx611_0 hHeld ⊢
                 refine pure_ (i := 0) (N := some 63) (v := ?_) (a' := ?_) #[true, false, false, false, false, false, false, false, false, false, false, false, false, false, false, false, false, false, false, false, false, false, false] rfl rfl (any_of HT_.out (by kernel_rfl)) (fun _ _ _ h => h) (Or.inl ⟨by rfl, ?_⟩) ?_ ?_
                 rotate_left
                 ·intro w'
                  go_simp
                  with_reducible rfl
                 rotate_left
                 ·simp only [Act.put, List.setIfInBounds_toArray, List.set_cons_zero, List.set_cons_succ, i64_w, i32_w]
                  rfl
                 refine pure_ (i := 1) (N := some 64) (v := ?_) (a' := ?_) #[true, true, false, false, false, false, false, false, false, false, false, false, false, false, false, false, false, false, false, false, false, false, false] rfl rfl (any_of HT_.out (by kernel_rfl)) (fun _ _ _ h => h) (Or.inl ⟨by rfl, ?_⟩) ?_ ?_
                 rotate_left
                 ·intro w'
                  go_simp
                  with_reducible rfl
                 rotate_left
                 ·simp only [Act.put, List.setIfInBounds_toArray, List.set_cons_zero, List.set_cons_succ, i64_w, i32_w]
                  rfl
                 refine pure_ (i := 3) (N := some 66) (v := ?_) (a' := ?_) #[true, true, false, true, false, false, false, false, false, false, false, false, false, false, false, false, false, false, false, false, false, false, false] rfl rfl (any_of HT_.out (by kernel_rfl)) (fun _ _ _ h => h) (Or.inl ⟨by rfl, ?_⟩) ?_ ?_
                 rotate_left
                 ·intro w'
                  go_simp
                  with_reducible rfl
                 rotate_left
                 ·simp only [Act.put, List.setIfInBounds_toArray, List.set_cons_zero, List.set_cons_succ, i64_w, i32_w]
                  rfl
                 refine pure_ (i := 4) (N := some 67) (v := ?_) (a' := ?_) #[true, true, false, true, true, false, false, false, false, false, false, false, false, false, false, false, false, false, false, false, false, false, false] rfl rfl (any_of HT_.out (by kernel_rfl)) (fun _ _ _ h => h) (Or.inl ⟨by rfl, ?_⟩) ?_ ?_
                 rotate_left
                 ·intro w'
                  go_simp
                  with_reducible rfl
                 rotate_left
                 ·simp only [Act.put, List.setIfInBounds_toArray, List.set_cons_zero, List.set_cons_succ, i64_w, i32_w]
                  rfl
                 refine pure_ (i := 5) (N := some 68) (v := ?_) (a' := ?_) #[true, true, false, true, true, true, false, false, false, false, false, false, false, false, false, false, false, false, false, false, false, false, false] rfl rfl (any_of HT_.out (by kernel_rfl)) (fun _ _ _ h => h) (Or.inl ⟨by rfl, ?_⟩) ?_ ?_
                 rotate_left
                 ·intro w'
                  go_simp
                  with_reducible rfl
                 rotate_left
                 ·simp only [Act.put, List.setIfInBounds_toArray, List.set_cons_zero, List.set_cons_succ, i64_w, i32_w]
                  rfl
                 refine pure_ (i := 9) (N := some 72) (v := ?_) (a' := ?_) #[true, true, false, true, true, true, false, false, false, true, false, false, false, false, false, false, false, false, false, false, false, false, false] rfl rfl (any_of HT_.out (by kernel_rfl)) (fun _ _ _ h => h) (Or.inl ⟨by rfl, ?_⟩) ?_ ?_
                 rotate_left
                 ·intro w'
                  go_simp
                  with_reducible rfl
                 rotate_left
                 ·simp only [Act.put, List.setIfInBounds_toArray, List.set_cons_zero, List.set_cons_succ, i64_w, i32_w]
                  rfl
                 refine pure_ (i := 10) (N := some 73) (v := ?_) (a' := ?_) #[true, true, false, true, true, true, false, false, false, true, true, false, false, false, false, false, false, false, false, false, false, false, false] rfl rfl (any_of HT_.out (by kernel_rfl)) (fun _ _ _ h => h) (Or.inl ⟨by rfl, ?_⟩) ?_ ?_
                 rotate_left
                 ·intro w'
                  go_simp
                  with_reducible rfl
                 rotate_left
                 ·simp only [Act.put, List.setIfInBounds_toArray, List.set_cons_zero, List.set_cons_succ, i64_w, i32_w]
                  rfl
                 refine pure_ (i := 12) (N := some 75) (v := ?_) (a' := ?_) #[true, true, false, true, true, true, false, false, false, true, true, false, true, false, false, false, false, false, false, false, false, false, false] rfl rfl (any_of HT_.out (by kernel_rfl)) (fun _ _ _ h => h) (Or.inl ⟨by rfl, ?_⟩) ?_ ?_
                 rotate_left
                 ·intro w'
                  go_simp
                  with_reducible rfl
                 rotate_left
                 ·simp only [Act.put, List.setIfInBounds_toArray, List.set_cons_zero, List.set_cons_succ, i64_w, i32_w]
                  rfl
                 refine pure_ (i := 13) (N := some 76) (v := ?_) (a' := ?_) #[true, true, false, true, true, true, false, false, false, true, true, false, true, true, false, false, false, false, false, false, false, false, false] rfl rfl (any_of HT_.out (by kernel_rfl)) (fun _ _ _ h => h) (Or.inl ⟨by rfl, ?_⟩) ?_ ?_
                 rotate_left
                 ·intro w'
                  go_simp
                  with_reducible rfl
                 rotate_left
                 ·simp only [Act.put, List.setIfInBounds_toArray, List.set_cons_zero, List.set_cons_succ, i64_w, i32_w]
                  rfl
                 refine pure_ (i := 14) (N := some 77) (v := ?_) (a' := ?_) #[true, true, false, true, true, true, false, false, false, true, true, false, true, true, true, false, false, false, false, false, false, false, false] rfl rfl (any_of HT_.out (by kernel_rfl)) (fun _ _ _ h => h) (Or.inl ⟨by rfl, ?_⟩) ?_ ?_
                 rotate_left
                 ·intro w'
                  go_simp
                  with_reducible rfl
                 rotate_left
                 ·simp only [Act.put, List.setIfInBounds_toArray, List.set_cons_zero, List.set_cons_succ, i64_w, i32_w]
                  rfl
                 refine pure_ (i := 15) (N := some 78) (v := ?_) (a' := ?_) #[true, true, false, true, true, true, false, false, false, true, true, false, true, true, true, true, false, false, false, false, false, false, false] rfl rfl (any_of HT_.out (by kernel_rfl)) (fun _ _ _ h => h) (Or.inl ⟨by rfl, ?_⟩) ?_ ?_
                 rotate_left
                 ·intro w'
                  go_simp
                  with_reducible rfl
                 rotate_left
                 ·simp only [Act.put, List.setIfInBounds_toArray, List.set_cons_zero, List.set_cons_succ, i64_w, i32_w]
                  rfl
                 refine pure_ (i := 16) (N := some 79) (v := ?_) (a' := ?_) #[true, true, false, true, true, true, false, false, false, true, true, false, true, true, true, true, true, false, false, false, false, false, false] rfl rfl (any_of HT_.out (by kernel_rfl)) (fun _ _ _ h => h) (Or.inl ⟨by rfl, ?_⟩) ?_ ?_
                 rotate_left
                 ·intro w'
                  go_simp
                  with_reducible rfl
                 rotate_left
                 ·simp only [Act.put, List.setIfInBounds_toArray, List.set_cons_zero, List.set_cons_succ, i64_w, i32_w]
                  rfl
                 refine pure_ (i := 17) (N := some 80) (v := ?_) (a' := ?_) #[true, true, false, true, true, true, false, false, false, true, true, false, true, true, true, true, true, true, false, false, false, false, false] rfl rfl (any_of HT_.out (by kernel_rfl)) (fun _ _ _ h => h) (Or.inl ⟨by rfl, ?_⟩) ?_ ?_
                 rotate_left
                 ·intro w'
                  go_simp
                  with_reducible rfl
                 rotate_left
                 ·simp only [Act.put, List.setIfInBounds_toArray, List.set_cons_zero, List.set_cons_succ, i64_w, i32_w]
                  rfl
                 refine take_ (i := 2) (N := some 65) (v := ?_) (a' := ?_) #[true, true, true, true, true, true, false, false, false, true, true, false, true, true, true, true, true, true, false, false, false, false, false] rfl rfl (take_ofW HT_.out HW_.out (by kernel_rfl)) (fun _ _ _ h => h) (Or.inl ⟨by rfl, ?_⟩) hHeld ?_ ?_
                 rotate_left
                 ·rintro w' ⟨s0, s1, s2, s3, s4, s5, s6, s7, s8, s9, s10, s11⟩
                  go_simp
                  with_reducible rfl
                 rotate_left
                 ·simp only [Act.put, List.setIfInBounds_toArray, List.set_cons_zero, List.set_cons_succ, i64_w, i32_w]
                  rfl
                 refine take_ (i := 6) (N := some 69) (v := ?_) (a' := ?_) #[true, true, true, true, true, true, true, false, false, true, true, false, true, true, true, true, true, true, false, false, false, false, false] rfl rfl (take_ofW HT_.out HW_.out (by kernel_rfl)) (fun _ _ _ h => h) (Or.inl ⟨by rfl, ?_⟩) hHeld ?_ ?_
                 rotate_left
                 ·rintro w' ⟨s0, s1, s2, s3, s4, s5, s6, s7, s8, s9, s10, s11⟩
                  go_simp
                  with_reducible rfl
                 rotate_left
                 ·simp only [Act.put, List.setIfInBounds_toArray, List.set_cons_zero, List.set_cons_succ, i64_w, i32_w]
                  rfl
                 refine pure_ (i := 7) (N := some 70) (v := ?_) (a' := ?_) #[true, true, true, true, true, true, true, true, false, true, true, false, true, true, true, true, true, true, false, false, false, false, false] rfl rfl (any_of HT_.out (by kernel_rfl)) (fun _ _ _ h => h) (Or.inl ⟨by rfl, ?_⟩) ?_ ?_
                 rotate_left
                 ·intro w'
                  go_simp
                  with_reducible rfl
                 rotate_left
                 ·simp only [Act.put, List.setIfInBounds_toArray, List.set_cons_zero, List.set_cons_succ, i64_w, i32_w]
                  rfl
                 refine take_ (i := 8) (N := some 71) (v := ?_) (a' := ?_) #[true, true, true, true, true, true, true, true, true, true, true, false, true, true, true, true, true, true, false, false, false, false, false] rfl rfl (take_ofW HT_.out HW_.out (by kernel_rfl)) (fun _ _ _ h => h) (Or.inl ⟨by rfl, ?_⟩) hHeld ?_ ?_
                 rotate_left
                 ·rintro w' ⟨s0, s1, s2, s3, s4, s5, s6, s7, s8, s9, s10, s11⟩
                  go_simp
                  with_reducible rfl
                 rotate_left
                 ·simp only [Act.put, List.setIfInBounds_toArray, List.set_cons_zero, List.set_cons_succ, i64_w, i32_w]
                  rfl
                 refine take_ (i := 11) (N := some 74) (v := ?_) (a' := ?_) #[true, true, true, true, true, true, true, true, true, true, true, true, true, true, true, true, true, true, false, false, false, false, false] rfl rfl (take_ofW HT_.out HW_.out (by kernel_rfl)) (fun _ _ _ h => h) (Or.inl ⟨by rfl, ?_⟩) hHeld ?_ ?_
                 rotate_left
                 ·rintro w' ⟨s0, s1, s2, s3, s4, s5, s6, s7, s8, s9, s10, s11⟩
                  go_simp
                  with_reducible rfl
                 rotate_left
                 ·simp only [Act.put, List.setIfInBounds_toArray, List.set_cons_zero, List.set_cons_succ, i64_w, i32_w]
                  rfl
                 refine take_ (i := 18) (N := some 81) (v := ?_) (a' := ?_) #[true, true, true, true, true, true, true, true, true, true, true, true, true, true, true, true, true, true, true, false, false, false, false] rfl rfl (take_ofW HT_.out HW_.out (by kernel_rfl)) (fun _ _ _ h => h) (Or.inl ⟨by rfl, ?_⟩) hHeld ?_ ?_
                 rotate_left
                 ·rintro w' ⟨s0, s1, s2, s3, s4, s5, s6, s7, s8, s9, s10, s11⟩
                  go_simp
                  with_reducible rfl
                 rotate_left
                 ·simp only [Act.put, List.setIfInBounds_toArray, List.set_cons_zero, List.set_cons_succ, i64_w, i32_w]
                  rfl
                 refine pure_ (i := 19) (N := some 82) (v := ?_) (a' := ?_) #[true, true, true, true, true, true, true, true, true, true, true, true, true, true, true, true, true, true, true, true, false, false, false] rfl rfl (any_of HT_.out (by kernel_rfl)) (fun _ _ _ h => h) (Or.inl ⟨by rfl, ?_⟩) ?_ ?_
                 rotate_left
                 ·intro w'
                  go_simp
                  with_reducible rfl
                 rotate_left
                 ·simp only [Act.put, List.setIfInBounds_toArray, List.set_cons_zero, List.set_cons_succ, i64_w, i32_w]
                  rfl
                 refine take_ (i := 20) (N := some 83) (v := ?_) (a' := ?_) #[true, true, true, true, true, true, true, true, true, true, true, true, true, true, true, true, true, true, true, true, true, false, false] rfl rfl (take_ofW HT_.out HW_.out (by kernel_rfl)) (fun _ _ _ h => h) (Or.inl ⟨by rfl, ?_⟩) hHeld ?_ ?_
                 rotate_left
                 ·rintro w' ⟨s0, s1, s2, s3, s4, s5, s6, s7, s8, s9, s10, s11⟩
                  go_simp
                  with_reducible rfl
                 rotate_left
                 ·simp only [Act.put, List.setIfInBounds_toArray, List.set_cons_zero, List.set_cons_succ, i64_w, i32_w]
                  rfl
                 refine one_ (i := 21) (N := some 84) #[true, true, true, true, true, true, true, true, true, true, true, true, true, true, true, true, true, true, true, true, true, true, false] rfl rfl (one_of HT_.out (by kernel_rfl)) (by decide) (fun K hK => ?_)
                 refine goes_ Tryd.func100 (by kernel_rfl) rfl #[.slice A609_0 (rd_L1 l0_2 (rd t597 x14_2)).length c609_0, .slice A611_0 (rd_L1 l0_5 (rd t604 (ji29))).length c611_0] (by rfl) rfl rfl (by (try simp only [List.map_toArray, List.map_cons, List.map_nil]); first | done | (simp only [hji29]; rfl) | rfl | (simp only [List.length_drop, List.length_take]; rfl)) ?_
                 with_reducible refine (caesuraref14_Least.calls k2 _ _ (rd_L1 l0_2 (rd t597 x14_2)) _ _ (rd_L1 l0_5 (rd t604 (ji29))) t612 _ ?side1 ?side2 ?side3 ?side4 A34.out).mono ?_
                 (case side1 => repeat (first | exact (Kd.C_below HR609_0.out HB.out) | (with_reducible refine Kd.C_alloc ?_ _) | (with_reducible refine Kd.C_drewN ?_ _) | (with_reducible refine Kd.C_drew ?_)))
                 (case side2 => exact HC609_0.out)
                 (case side3 => repeat (first | exact (Kd.C_below HR611_0.out HB.out) | (with_reducible refine Kd.C_alloc ?_ _) | (with_reducible refine Kd.C_drewN ?_ _) | (with_reducible refine Kd.C_drew ?_)))
                 (case side4 => exact HC611_0.out)
                 rintro e w' ⟨rfl, ⟨nd, rfl⟩⟩
                 refine ⟨_, rfl, ?_⟩
                 refine hK.out _ _ ⟨(blk_cell BK592.out 0).trans rfl, (blk_cell BK592.out 1).trans rfl, (blk_cell BK592.out 2).trans rfl, (blk_cell BK592.out 3).trans rfl, (blk_cell BK592.out 4).trans rfl, (blk_cell BK592.out 5).trans rfl, (blk_cell BK592.out 6).trans rfl, (blk_cell BK592.out 7).trans rfl, hHeld.2.2.2.2.2.2.2.2.1, ((HB.out.cell (World.block_lt_of_cell? w _ hw609_0)).trans hw609_0), hHeld.2.2.2.2.2.2.2.2.2.2.1, ((HB.out.cell (World.block_lt_of_cell? w _ hw611_0)).trans hw611_0)⟩ (fun hHeld => ?_)
                 clear hK K
                 refine norm_ (a' := ?_) ?_ ?_
                 rotate_left
                 ·show Act.put _ (some 84) _ = _
                  simp only [Act.put, List.setIfInBounds_toArray, List.set_cons_zero, List.set_cons_succ, i64_w, i32_w]
                  rfl
                 refine pure_ (i := 22) (N := some 15) (v := ?_) (a' := ?_) #[true, true, true, true, true, true, true, true, true, true, true, true, true, true, true, true, true, true, true, true, true, true, true] rfl rfl (any_of HT_.out (by kernel_rfl)) (fun _ _ _ h => h) (Or.inl ⟨by rfl, ?_⟩) ?_ ?_
                 rotate_left
                 ·intro w'
                  go_simp
                  with_reducible rfl
                 rotate_left
                 ·simp only [Act.put, List.setIfInBounds_toArray, List.set_cons_zero, List.set_cons_succ, i64_w, i32_w]
                  rfl
                 refine done_ (done_of HT_.out (by kernel_rfl)) ?_
                 try go_wp2_with (first | ((with_reducible refine gate_builtin (b := .append) (xs := #[.tmp 85, .tmp 87]) rfl ?_); at_builtin; refine Kd.R_append (Kd.int .i64) (w0 := w) w.heap.size rfl (.tmp 85) (.tmp 87) 25 3 (.int .i64 0) 8 rfl Tryd.underlying25 info3 rfl (by decide) (by omega) u13 x13_2 t612 [.int .i64 t612] (fun k_ => some k_ ≠ (.slice (some ad608) t597.length co37 : Value).ownBlock ∧ some k_ ≠ (.slice (some ad610) t604.length co38 : Value).ownBlock) (fun _ => False) rfl rfl ?aP (fun _ hk => hk.elim) ?aF ?aO ?aB ?aS ?aL ?_; (case aP => exact rfl); (case aB => exact (by repeat (first | (with_reducible first | exact HB.out | apply below_alloc | apply pw_below_drewN | apply below_drew1 | refine below_set ?_ GE592.out) | exact HB.out))); (case aF => exact (fun k_ hk => ⟨Kd.fresh' (Kd.R_lt (by (with_reducible repeat (first | apply Kd.R_alloc | apply Kd.R_drewN | apply Kd.R_drew)); exact HO_9.out)) k_ hk, Kd.fresh' (Kd.R_lt (by (with_reducible repeat (first | apply Kd.R_alloc | apply Kd.R_drewN | apply Kd.R_drew)); exact HO_11.out)) k_ hk⟩)); (case aO => exact (by (with_reducible repeat (first | apply Kd.R_alloc | apply Kd.R_drewN | apply Kd.R_drew)); exact HO_13.out)); (case aS => exact (below_size (by repeat (first | (with_reducible first | exact HB.out | apply below_alloc | apply pw_below_drewN | apply below_drew1 | refine below_set ?_ GE592.out) | exact HB.out)))); (case aL => have := LMc35.out; omega); intro v614 w39 ho hb hg hat; rw [← Ny613.out] at ho; have n0_ := Aside0.mk (Kd.R_after (ok := (fun k_ => some k_ ≠ (.slice (some ad610) t604.length co38 : Value).ownBlock)) (by (with_reducible repeat (first | apply Kd.R_alloc | apply Kd.R_drewN | apply Kd.R_drew)); exact HO_9.out) hg hat); have n1_ := Aside0.mk (Kd.R_after (ok := (fun k_ => some k_ ≠ (.slice (some ad608) t597.length co37 : Value).ownBlock)) (by (with_reducible repeat (first | apply Kd.R_alloc | apply Kd.R_drewN | apply Kd.R_drew)); exact HO_11.out) hg hat); have n2_ := Aside0.mk (blk_grown (g := gb592) (o := .cells #[.int .i64 a0_0, .slice A0_1 l0_1.length c0_1, .slice (some ad609) l0_2.length c0_2, .int .i64 a0_3, .slice A0_4 l0_4.length c0_4, .slice (some ad611) l0_5.length c0_5, .slice A0_6 l0_6.length c0_6, .bool a0_7] 60 (0, 0)) (by (with_reducible repeat (first | refine blk_drewN ?_ _ | refine blk_drew ?_ | refine blk_alloc ?_ _)); exact BK592.out) hg (Kd.R_ne HO_13.out BK592.out (by decide))); have n3_ := Aside0.mk (hb); have n4_ := Aside0.mk (ho); clear HO_9; clear HO_11; clear BK592; clear HB; clear HO_13; have HO_9 := n0_; have HO_11 := n1_; have BK592 := n2_; have HB := n3_; have HO615 := n4_; clear n0_ n1_ n2_ n3_ n4_; clear ho hb hg hat))
                 go_roundg k2
                 case measure => have := HK1.out; have := HK2.out; omega
                 case rel => exact ⟨(y613), (wrap64 (x14_2 + 1)), (by first | rfl | (simp; done) | (simp [*]; done)), H', ⟨by have := HK1.out; have := HK2.out; omega⟩, ⟨by (with_reducible repeat (first | apply Kd.R_alloc | apply Kd.R_drewN | apply Kd.R_drew)); exact HO_9.out⟩, ⟨by (with_reducible repeat (first | apply Kd.R_alloc | apply Kd.R_drewN | apply Kd.R_drew)); exact HO_11.out⟩, ⟨by (with_reducible repeat (first | apply Kd.R_alloc | apply Kd.R_drewN | apply Kd.R_drew)); exact HO615.out⟩, ⟨by (with_reducible repeat (first | refine blk_drewN ?_ _ | refine blk_drew ?_ | refine blk_alloc ?_ _)); exact BK592.out⟩, ⟨by repeat (first | (with_reducible first | exact HB.out | apply below_alloc | apply pw_below_drewN | apply below_drew1 | refine below_set ?_ GE592.out) | exact HB.out)⟩⟩
                ·rw [if_neg c35] at H
                 exact absurd H (by simp)
               ·rw [if_neg c33] at H
                exact absurd H (by simp)
              ·rw [if_neg c32] at H
               exact absurd H (by simp)
             ·rw [if_neg c31] at H
              exact absurd H (by simp)
            ·rw [if_neg c30] at H
             exact absurd H (by simp)
           ·rw [if_neg c28] at H
            exact absurd H (by simp)
          ·rw [if_neg c27] at H
           exact absurd H (by simp)
         ·rw [if_neg c26] at H
          exact absurd H (by simp)
        ·rw [if_neg c25] at H
         exact absurd H (by simp)
       ·rw [if_neg c24] at H
        have c24b0 : decide (x14_2 < (l1.length : Int)) = false := decide_eq_false c24
        clear c24
        simp only [Option.some.injEq, Prod.mk.injEq] at H
        obtain ⟨rfl, rfl⟩ := H
        go_wp2
        go_ret2
        exact ⟨_, by first | rfl | (simp [errW_none, errW_some] <;> rfl) | (simp [*, errW_none, errW_some] <;> rfl), by (with_reducible repeat (first | apply Kd.R_alloc | apply Kd.R_drewN | apply Kd.R_drew)); exact Kd.R_mono HO_13.out (fun _ hk => trivial), by repeat (first | (with_reducible first | exact HB.out | apply below_alloc | apply pw_below_drewN | apply below_drew1 | refine below_set ?_ GE592.out) | exact HB.out)⟩
 ·rw [if_neg c5] at H
  have c5b0 : (t594 == 0) = false := beq_eq_false_iff_ne.mpr c5
  have c5b1 : (t594 != 0) = true := bne_iff_ne.mpr c5
  simp only [Option.some.injEq, Prod.mk.injEq] at H
  obtain ⟨rfl, rfl⟩ := H
  go_enter Tryd.func40, Tryd.ntmps40
  go_wp2_with (first | ((with_reducible refine gate_dst (N := 2) rfl ?_); refine box_event ?hg (N := 2) ?hd (cs := #[.int .i64 a0_0, .slice A0_1 l0_1.length c0_1, .slice A0_2 l0_2.length c0_2, .int .i64 a0_3, .slice A0_4 l0_4.length c0_4, .slice A0_5 l0_5.length c0_5, .slice A0_6 l0_6.length c0_6, .bool a0_7]) (t := 60) ?hr ?_; (case hd => rfl); (case hg => rfl); (case hr => first | (go_simp; done) | (go_simp; rfl)); intro gb592 hg w40 hbox hb; have n0_ := Aside0.mk (below_step (by repeat (first | (with_reducible first | exact HB.out | apply below_alloc | apply pw_below_drewN | apply below_drew1) | exact HB.out)) hb); have n1_ := Aside0.mk (hbox); have n2_ := Aside0.mk ((by rw [hg]; exact (below_size (by repeat (first | (with_reducible first | exact HB.out | apply below_alloc | apply pw_below_drewN | apply below_drew1) | exact HB.out))) : w.heap.size ≤ gb592)); have n3_ := Aside0.mk ((by rw [hg]; exact (below_size (by repeat (first | (with_reducible first | exact HB.out | apply below_alloc | apply pw_below_drewN | apply below_drew1) | exact HB.out))) : w.heap.size ≤ gb592)); clear HB; have HB := n0_; have BK592 := n1_; have GW592 := n2_; have GE592 := n3_; clear n0_ n1_ n2_ n3_; clear hb hbox hg; have hcz41_0 : w40.cell? ⟨gb592, 0, none⟩ = some (.int .i64 a0_0) := (blk_cell BK592.out 0).trans rfl; have hcz41_1 : w40.cell? ⟨gb592, 1, none⟩ = some (.slice A0_1 l0_1.length c0_1) := (blk_cell BK592.out 1).trans rfl; have hcz41_2 : w40.cell? ⟨gb592, 2, none⟩ = some (.slice A0_2 l0_2.length c0_2) := (blk_cell BK592.out 2).trans rfl; have hcz41_3 : w40.cell? ⟨gb592, 3, none⟩ = some (.int .i64 a0_3) := (blk_cell BK592.out 3).trans rfl; have hcz41_4 : w40.cell? ⟨gb592, 4, none⟩ = some (.slice A0_4 l0_4.length c0_4) := (blk_cell BK592.out 4).trans rfl; have hcz41_5 : w40.cell? ⟨gb592, 5, none⟩ = some (.slice A0_5 l0_5.length c0_5) := (blk_cell BK592.out 5).trans rfl; have hcz41_6 : w40.cell? ⟨gb592, 6, none⟩ = some (.slice A0_6 l0_6.length c0_6) := (blk_cell BK592.out 6).trans rfl; have hcz41_7 : w40.cell? ⟨gb592, 7, none⟩ = some (.bool a0_7) := (blk_cell BK592.out 7).trans rfl; have hfz41_0 := blk_frozen BK592.out 0; have hfz41_1 := blk_frozen BK592.out 1; have hfz41_2 := blk_frozen BK592.out 2; have hfz41_3 := blk_frozen BK592.out 3; have hfz41_4 := blk_frozen BK592.out 4; have hfz41_5 := blk_frozen BK592.out 5; have hfz41_6 := blk_frozen BK592.out 6; have hfz41_7 := blk_frozen BK592.out 7) | ((with_reducible refine gate_callee (f := 97) rfl ?_); refine goesL_ (some 17) rfl rfl Tryd.func97 (by kernel_rfl) rfl #[.agg #[.int .i64 a0_0, .slice A0_1 l0_1.length c0_1, .slice A0_2 l0_2.length c0_2, .int .i64 a0_3, .slice A0_4 l0_4.length c0_4, .slice A0_5 l0_5.length c0_5, .slice A0_6 l0_6.length c0_6, .bool a0_7]] rfl (by (try simp only [List.map_toArray, List.map_cons, List.map_nil]); first | done | rfl | (simp only [List.length_drop, List.length_take]; rfl)) ?_; (with_reducible refine (caesuraref14_Symbols.calls a0_0 _ _ l0_1 _ _ l0_2 a0_3 _ _ l0_4 _ _ l0_5 _ _ l0_6 a0_7 t593 _ ?side1 ?side2 ?side3 ?side4 ?side5 ?side6 ?side7 ?side8 ?side9 ?side10 A3.out).mono ?_); (case side1 => repeat (first | exact (Kd.C_below HR0_1.out HB.out) | (with_reducible refine Kd.C_alloc ?_ _) | (with_reducible refine Kd.C_drewN ?_ _) | (with_reducible refine Kd.C_drew ?_))); (case side2 => exact HC0_1.out); (case side3 => repeat (first | exact (Kd.C_below HR0_2.out HB.out) | (with_reducible refine Kd.C_alloc ?_ _) | (with_reducible refine Kd.C_drewN ?_ _) | (with_reducible refine Kd.C_drew ?_))); (case side4 => exact HC0_2.out); (case side5 => repeat (first | exact (Kd.C_below HR0_4.out HB.out) | (with_reducible refine Kd.C_alloc ?_ _) | (with_reducible refine Kd.C_drewN ?_ _) | (with_reducible refine Kd.C_drew ?_))); (case side6 => exact HC0_4.out); (case side7 => repeat (first | exact (Kd.C_below HR0_5.out HB.out) | (with_reducible refine Kd.C_alloc ?_ _) | (with_reducible refine Kd.C_drewN ?_ _) | (with_reducible refine Kd.C_drew ?_))); (case side8 => exact HC0_5.out); (case side9 => repeat (first | exact (Kd.C_below HR0_6.out HB.out) | (with_reducible refine Kd.C_alloc ?_ _) | (with_reducible refine Kd.C_drewN ?_ _) | (with_reducible refine Kd.C_drew ?_))); (case side10 => exact HC0_6.out); rintro e w42 ⟨rfl, hb⟩; refine ⟨_, rfl, ?_⟩; have n0_ := Aside0.mk (blk_below (g := gb592) (o := .cells #[.int .i64 a0_0, .slice A0_1 l0_1.length c0_1, .slice A0_2 l0_2.length c0_2, .int .i64 a0_3, .slice A0_4 l0_4.length c0_4, .slice A0_5 l0_5.length c0_5, .slice A0_6 l0_6.length c0_6, .bool a0_7] 60 (0, 0)) (by (with_reducible repeat (first | refine blk_drewN ?_ _ | refine blk_drew ?_ | refine blk_alloc ?_ _)); exact BK592.out) hb); have n1_ := Aside0.mk (below_step (by repeat (first | (with_reducible first | exact HB.out | apply below_alloc | apply pw_below_drewN | apply below_drew1 | refine below_set ?_ GE592.out) | exact HB.out)) hb); clear BK592; clear HB; have BK592 := n0_; have HB := n1_; clear n0_ n1_; (try clear hb); (try clear hb2); (try clear hk); (try clear hi); have hcz43_0 : w42.cell? ⟨gb592, 0, none⟩ = some (.int .i64 a0_0) := (blk_cell BK592.out 0).trans rfl; have hcz43_1 : w42.cell? ⟨gb592, 1, none⟩ = some (.slice A0_1 l0_1.length c0_1) := (blk_cell BK592.out 1).trans rfl; have hcz43_2 : w42.cell? ⟨gb592, 2, none⟩ = some (.slice A0_2 l0_2.length c0_2) := (blk_cell BK592.out 2).trans rfl; have hcz43_3 : w42.cell? ⟨gb592, 3, none⟩ = some (.int .i64 a0_3) := (blk_cell BK592.out 3).trans rfl; have hcz43_4 : w42.cell? ⟨gb592, 4, none⟩ = some (.slice A0_4 l0_4.length c0_4) := (blk_cell BK592.out 4).trans rfl; have hcz43_5 : w42.cell? ⟨gb592, 5, none⟩ = some (.slice A0_5 l0_5.length c0_5) := (blk_cell BK592.out 5).trans rfl; have hcz43_6 : w42.cell? ⟨gb592, 6, none⟩ = some (.slice A0_6 l0_6.length c0_6) := (blk_cell BK592.out 6).trans rfl; have hcz43_7 : w42.cell? ⟨gb592, 7, none⟩ = some (.bool a0_7) := (blk_cell BK592.out 7).trans rfl; have hfz43_0 := blk_frozen BK592.out 0; have hfz43_1 := blk_frozen BK592.out 1; have hfz43_2 := blk_frozen BK592.out 2; have hfz43_3 := blk_frozen BK592.out 3; have hfz43_4 := blk_frozen BK592.out 4; have hfz43_5 := blk_frozen BK592.out 5; have hfz43_6 := blk_frozen BK592.out 6; have hfz43_7 := blk_frozen BK592.out 7) | ((with_reducible refine gate_callee (f := 46) rfl ?_); refine goesL_ (some 20) rfl rfl Tryd.func46 (by kernel_rfl) rfl #[.agg #[.int .i64 a0_0, .slice A0_1 l0_1.length c0_1, .slice A0_2 l0_2.length c0_2, .int .i64 a0_3, .slice A0_4 l0_4.length c0_4, .slice A0_5 l0_5.length c0_5, .slice A0_6 l0_6.length c0_6, .bool a0_7], .int .i64 t593] rfl (by (try simp only [List.map_toArray, List.map_cons, List.map_nil]); first | done | rfl | (simp only [List.length_drop, List.length_take]; rfl)) ?_; (with_reducible refine (caesuraref14_Check.calls k a0_0 _ _ l0_1 _ _ l0_2 a0_3 _ _ l0_4 _ _ l0_5 _ _ l0_6 a0_7 t593 t594 _ ?side1 ?side2 ?side3 ?side4 ?side5 ?side6 ?side7 ?side8 ?side9 ?side10 A4.out).mono ?_); (case side1 => repeat (first | exact (Kd.C_below HR0_1.out HB.out) | (with_reducible refine Kd.C_alloc ?_ _) | (with_reducible refine Kd.C_drewN ?_ _) | (with_reducible refine Kd.C_drew ?_))); (case side2 => exact HC0_1.out); (case side3 => repeat (first | exact (Kd.C_below HR0_2.out HB.out) | (with_reducible refine Kd.C_alloc ?_ _) | (with_reducible refine Kd.C_drewN ?_ _) | (with_reducible refine Kd.C_drew ?_))); (case side4 => exact HC0_2.out); (case side5 => repeat (first | exact (Kd.C_below HR0_4.out HB.out) | (with_reducible refine Kd.C_alloc ?_ _) | (with_reducible refine Kd.C_drewN ?_ _) | (with_reducible refine Kd.C_drew ?_))); (case side6 => exact HC0_4.out); (case side7 => repeat (first | exact (Kd.C_below HR0_5.out HB.out) | (with_reducible refine Kd.C_alloc ?_ _) | (with_reducible refine Kd.C_drewN ?_ _) | (with_reducible refine Kd.C_drew ?_))); (case side8 => exact HC0_5.out); (case side9 => repeat (first | exact (Kd.C_below HR0_6.out HB.out) | (with_reducible refine Kd.C_alloc ?_ _) | (with_reducible refine Kd.C_drewN ?_ _) | (with_reducible refine Kd.C_drew ?_))); (case side10 => exact HC0_6.out); rintro e w44 ⟨rfl, hb⟩; refine ⟨_, rfl, ?_⟩; have n0_ := Aside0.mk (blk_below (g := gb592) (o := .cells #[.int .i64 a0_0, .slice A0_1 l0_1.length c0_1, .slice A0_2 l0_2.length c0_2, .int .i64 a0_3, .slice A0_4 l0_4.length c0_4, .slice A0_5 l0_5.length c0_5, .slice A0_6 l0_6.length c0_6, .bool a0_7] 60 (0, 0)) (by (with_reducible repeat (first | refine blk_drewN ?_ _ | refine blk_drew ?_ | refine blk_alloc ?_ _)); exact BK592.out) hb); have n1_ := Aside0.mk (below_step (by repeat (first | (with_reducible first | exact HB.out | apply below_alloc | apply pw_below_drewN | apply below_drew1 | refine below_set ?_ GE592.out) | exact HB.out)) hb); clear BK592; clear HB; have BK592 := n0_; have HB := n1_; clear n0_ n1_; (try clear hb); (try clear hb2); (try clear hk); (try clear hi)))
  go_ret2
  exact ⟨_, by first | rfl | (simp [errW_none, errW_some] <;> rfl) | (simp [*, errW_none, errW_some] <;> rfl), by first | exact Kd.R_nil _ _ _ _ _ | exact Kd.N_nil _ _ _ _ _ | exact Kd.V_nil _ _ _ _ _ | exact Kd.Q_nil _ _ _ _ _ | exact Kd.S_nil _ _ _ _ _, by repeat (first | (with_reducible first | exact HB.out | apply below_alloc | apply pw_below_drewN | apply below_drew1 | refine below_set ?_ GE592.out) | exact HB.out)⟩
end Go.Proofs.YtfonajakaimnoaaDoor.Lib

namespace Go.Proofs.YtfonajakaimnoaaDoor.Lib
open Go.RowKit Go.Proofs.YtfonajakaimnoaaDoorW.PrintWords Go.Proofs.YtfonajakaimnoaaDoorW.PrintLast Go.Proofs.YtfonajakaimnoaaDoorW.PrintMore
attribute [local go_sem] max2_int min2_int max_two min_two max_three min_three max_four min_four   -- for this text's walks alone
set_option linter.unusedVariables false
set_option linter.unusedSimpArgs false
def caesuraref14_Says.f (a0_0 : Int) (l0_1 : List (List Int)) (l0_2 : List (List Int)) (a0_3 : Int) (l0_4 : List (List Int)) (l0_5 : List (List Int)) (l0_6 : List Bool) (a0_7 : Bool) (a1 : Int) : Option (Bool) := if a1 ≥ 0 then (if 0 ≤ a1 then (if a1 < (l0_6.length : Int) then (if rdOf false l0_6 a1 = true then (some true) else (if a1 < 0 then (some a0_7) else (some false))) else (none)) else (none)) else (if a1 < 0 then (some a0_7) else (some false))
set_option maxHeartbeats 8000000 in
set_option maxRecDepth 100000 in
theorem caesuraref14_Says.calls (a0_0 : Int) (A0_1 : Option Addr) (c0_1 : Nat) (l0_1 : List (List Int)) (A0_2 : Option Addr) (c0_2 : Nat) (l0_2 : List (List Int)) (a0_3 : Int) (A0_4 : Option Addr) (c0_4 : Nat) (l0_4 : List (List Int)) (A0_5 : Option Addr) (c0_5 : Nat) (l0_5 : List (List Int)) (A0_6 : Option Addr) (c0_6 : Nat) (l0_6 : List Bool) (a0_7 : Bool) (a1 : Int) (r : Bool) (w : World) (hr0_1 : Kd.C (Kd.slice 3 (Kd.int .i64)) w A0_1 l0_1.length l0_1) (hc0_1 : l0_1.length ≤ c0_1) (hr0_2 : Kd.C (Kd.slice 3 (Kd.int .i64)) w A0_2 l0_2.length l0_2) (hc0_2 : l0_2.length ≤ c0_2) (hr0_4 : Kd.C (Kd.slice 3 (Kd.int .i64)) w A0_4 l0_4.length l0_4) (hc0_4 : l0_4.length ≤ c0_4) (hr0_5 : Kd.C (Kd.slice 3 (Kd.int .i64)) w A0_5 l0_5.length l0_5) (hc0_5 : l0_5.length ≤ c0_5) (hr0_6 : Kd.C Kd.bool w A0_6 l0_6.length l0_6) (hc0_6 : l0_6.length ≤ c0_6) (h : caesuraref14_Says.f a0_0 l0_1 l0_2 a0_3 l0_4 l0_5 l0_6 a0_7 a1 = some r) :
  Calls Tryd.prog 101 #[.agg #[.int .i64 a0_0, .slice A0_1 l0_1.length c0_1, .slice A0_2 l0_2.length c0_2, .int .i64 a0_3, .slice A0_4 l0_4.length c0_4, .slice A0_5 l0_5.length c0_5, .slice A0_6 l0_6.length c0_6, .bool a0_7], .int .i64 a1] w fun e w' => e = .returned (.bool r) ∧ Below w.heap.size w w' := by
 have hu60 := Tryd.underlying60
 have HR0_1 := Aside0.mk hr0_1
 have HC0_1 := Aside0.mk hc0_1
 clear hr0_1 hc0_1
 have HR0_2 := Aside0.mk hr0_2
 have HC0_2 := Aside0.mk hc0_2
 clear hr0_2 hc0_2
 have HR0_4 := Aside0.mk hr0_4
 have HC0_4 := Aside0.mk hc0_4
 clear hr0_4 hc0_4
 have HR0_5 := Aside0.mk hr0_5
 have HC0_5 := Aside0.mk hc0_5
 clear hr0_5 hc0_5
 have HR0_6 := Aside0.mk hr0_6
 have HC0_6 := Aside0.mk hc0_6
 clear hr0_6 hc0_6
 have HB := Aside0.mk (Below.refl w.heap.size w)
 have H : (if a1 ≥ 0 then (if 0 ≤ a1 then (if a1 < (l0_6.length : Int) then (if rdOf false l0_6 a1 = true then (some true) else (if a1 < 0 then (some a0_7) else (some false))) else (none)) else (none)) else (if a1 < 0 then (some a0_7) else (some false))) = some r := h
 clear h
 by_cases c3 : a1 ≥ 0
 ·rw [if_pos c3] at H
  have c3b0 : decide (0 ≤ a1) = true := decide_eq_true c3
  clear c3
  by_cases c4 : 0 ≤ a1
  ·rw [if_pos c4] at H
   have c4b0 : decide (0 ≤ a1) = true := decide_eq_true c4
   clear c4
   by_cases c5 : a1 < (l0_6.length : Int)
   ·rw [if_pos c5] at H
    have c5b0 : decide (a1 < (l0_6.length : Int)) = true := decide_eq_true c5
    clear c5
    obtain ⟨bq6, hbq6⟩ : ∃ b_ : Bool, b_ = (rdOf false l0_6 a1) := ⟨_, rfl⟩
    replace H : (if bq6 = true then (some true) else (if a1 < 0 then (some a0_7) else (some false))) = some r := by rw [← hbq6] at H; exact H
    have Nbq6 := Aside0.mk hbq6
    clear hbq6
    by_cases c7 : bq6 = true
    ·subst c7
     have H1 : (some true) = some r := by rw [if_pos rfl] at H; exact H
     clear H
     have H := H1
     clear H1
     obtain rfl := Option.some.inj H
     go_enter Tryd.func101, Tryd.ntmps101
     go_wp2_with (first | ((with_reducible refine gate_dst (N := 2) rfl ?_); refine box_event ?hg (N := 2) ?hd (cs := #[.int .i64 a0_0, .slice A0_1 l0_1.length c0_1, .slice A0_2 l0_2.length c0_2, .int .i64 a0_3, .slice A0_4 l0_4.length c0_4, .slice A0_5 l0_5.length c0_5, .slice A0_6 l0_6.length c0_6, .bool a0_7]) (t := 60) ?hr ?_; (case hd => rfl); (case hg => rfl); (case hr => first | (go_simp; done) | (go_simp; rfl)); intro gb617 hg w8 hbox hb; have n0_ := Aside0.mk (below_step (by repeat (first | (with_reducible first | exact HB.out | apply below_alloc | apply pw_below_drewN | apply below_drew1) | exact HB.out)) hb); have n1_ := Aside0.mk (hbox); have n2_ := Aside0.mk ((by rw [hg]; exact (below_size (by repeat (first | (with_reducible first | exact HB.out | apply below_alloc | apply pw_below_drewN | apply below_drew1) | exact HB.out))) : w.heap.size ≤ gb617)); have n3_ := Aside0.mk ((by rw [hg]; exact (below_size (by repeat (first | (with_reducible first | exact HB.out | apply below_alloc | apply pw_below_drewN | apply below_drew1) | exact HB.out))) : w.heap.size ≤ gb617)); clear HB; have HB := n0_; have BK617 := n1_; have GW617 := n2_; have GE617 := n3_; clear n0_ n1_ n2_ n3_; clear hb hbox hg; have hcz9_0 : w8.cell? ⟨gb617, 0, none⟩ = some (.int .i64 a0_0) := (blk_cell BK617.out 0).trans rfl; have hcz9_1 : w8.cell? ⟨gb617, 1, none⟩ = some (.slice A0_1 l0_1.length c0_1) := (blk_cell BK617.out 1).trans rfl; have hcz9_2 : w8.cell? ⟨gb617, 2, none⟩ = some (.slice A0_2 l0_2.length c0_2) := (blk_cell BK617.out 2).trans rfl; have hcz9_3 : w8.cell? ⟨gb617, 3, none⟩ = some (.int .i64 a0_3) := (blk_cell BK617.out 3).trans rfl; have hcz9_4 : w8.cell? ⟨gb617, 4, none⟩ = some (.slice A0_4 l0_4.length c0_4) := (blk_cell BK617.out 4).trans rfl; have hcz9_5 : w8.cell? ⟨gb617, 5, none⟩ = some (.slice A0_5 l0_5.length c0_5) := (blk_cell BK617.out 5).trans rfl; have hcz9_6 : w8.cell? ⟨gb617, 6, none⟩ = some (.slice A0_6 l0_6.length c0_6) := (blk_cell BK617.out 6).trans rfl; have hcz9_7 : w8.cell? ⟨gb617, 7, none⟩ = some (.bool a0_7) := (blk_cell BK617.out 7).trans rfl; have hfz9_0 := blk_frozen BK617.out 0; have hfz9_1 := blk_frozen BK617.out 1; have hfz9_2 := blk_frozen BK617.out 2; have hfz9_3 := blk_frozen BK617.out 3; have hfz9_4 := blk_frozen BK617.out 4; have hfz9_5 := blk_frozen BK617.out 5; have hfz9_6 := blk_frozen BK617.out 6; have hfz9_7 := blk_frozen BK617.out 7; have p618 : 0 ≤ (a1 : Int) := of_decide_eq_true (by first | (with_reducible assumption) | assumption); have q618 : a1 < (l0_6.length : Int) := of_decide_eq_true (by first | (with_reducible assumption) | assumption); obtain ⟨ad618, e618, hx618_0⟩ := Kd.at_bool HR0_6.out a1 p618 q618; (try rw [← Nbq6.out] at hx618_0); cases e618; replace hx618_0 := (HB.out.cell (World.block_lt_of_cell? w _ hx618_0)).trans hx618_0; replace p618 := eq_true p618; replace q618 := eq_true q618))
     go_ret
     exact ⟨by first | rfl | (simp [errW_none, errW_some] <;> rfl) | (simp [*, errW_none, errW_some] <;> rfl), by repeat (first | (with_reducible first | exact HB.out | apply below_alloc | apply pw_below_drewN | apply below_drew1 | refine below_set ?_ GE617.out) | exact HB.out)⟩
    ·replace c7 := Bool.eq_false_iff.mpr c7
     subst c7
     have H1 : (if a1 < 0 then (some a0_7) else (some false)) = some r := by rw [if_neg (show ¬ (false = true) by decide)] at H; exact H
     clear H
     have H := H1
     clear H1
     by_cases c10 : a1 < 0
     ·rw [if_pos c10] at H
      have c10b0 : decide (a1 < 0) = true := decide_eq_true c10
      clear c10
      obtain rfl := Option.some.inj H
      go_enter Tryd.func101, Tryd.ntmps101
      go_wp2_with (first | ((with_reducible refine gate_dst (N := 2) rfl ?_); refine box_event ?hg (N := 2) ?hd (cs := #[.int .i64 a0_0, .slice A0_1 l0_1.length c0_1, .slice A0_2 l0_2.length c0_2, .int .i64 a0_3, .slice A0_4 l0_4.length c0_4, .slice A0_5 l0_5.length c0_5, .slice A0_6 l0_6.length c0_6, .bool a0_7]) (t := 60) ?hr ?_; (case hd => rfl); (case hg => rfl); (case hr => first | (go_simp; done) | (go_simp; rfl)); intro gb617 hg w11 hbox hb; have n0_ := Aside0.mk (below_step (by repeat (first | (with_reducible first | exact HB.out | apply below_alloc | apply pw_below_drewN | apply below_drew1) | exact HB.out)) hb); have n1_ := Aside0.mk (hbox); have n2_ := Aside0.mk ((by rw [hg]; exact (below_size (by repeat (first | (with_reducible first | exact HB.out | apply below_alloc | apply pw_below_drewN | apply below_drew1) | exact HB.out))) : w.heap.size ≤ gb617)); have n3_ := Aside0.mk ((by rw [hg]; exact (below_size (by repeat (first | (with_reducible first | exact HB.out | apply below_alloc | apply pw_below_drewN | apply below_drew1) | exact HB.out))) : w.heap.size ≤ gb617)); clear HB; have HB := n0_; have BK617 := n1_; have GW617 := n2_; have GE617 := n3_; clear n0_ n1_ n2_ n3_; clear hb hbox hg; have hcz12_0 : w11.cell? ⟨gb617, 0, none⟩ = some (.int .i64 a0_0) := (blk_cell BK617.out 0).trans rfl; have hcz12_1 : w11.cell? ⟨gb617, 1, none⟩ = some (.slice A0_1 l0_1.length c0_1) := (blk_cell BK617.out 1).trans rfl; have hcz12_2 : w11.cell? ⟨gb617, 2, none⟩ = some (.slice A0_2 l0_2.length c0_2) := (blk_cell BK617.out 2).trans rfl; have hcz12_3 : w11.cell? ⟨gb617, 3, none⟩ = some (.int .i64 a0_3) := (blk_cell BK617.out 3).trans rfl; have hcz12_4 : w11.cell? ⟨gb617, 4, none⟩ = some (.slice A0_4 l0_4.length c0_4) := (blk_cell BK617.out 4).trans rfl; have hcz12_5 : w11.cell? ⟨gb617, 5, none⟩ = some (.slice A0_5 l0_5.length c0_5) := (blk_cell BK617.out 5).trans rfl; have hcz12_6 : w11.cell? ⟨gb617, 6, none⟩ = some (.slice A0_6 l0_6.length c0_6) := (blk_cell BK617.out 6).trans rfl; have hcz12_7 : w11.cell? ⟨gb617, 7, none⟩ = some (.bool a0_7) := (blk_cell BK617.out 7).trans rfl; have hfz12_0 := blk_frozen BK617.out 0; have hfz12_1 := blk_frozen BK617.out 1; have hfz12_2 := blk_frozen BK617.out 2; have hfz12_3 := blk_frozen BK617.out 3; have hfz12_4 := blk_frozen BK617.out 4; have hfz12_5 := blk_frozen BK617.out 5; have hfz12_6 := blk_frozen BK617.out 6; have hfz12_7 := blk_frozen BK617.out 7; have p618 : 0 ≤ (a1 : Int) := of_decide_eq_true (by first | (with_reducible assumption) | assumption); have q618 : a1 < (l0_6.length : Int) := of_decide_eq_true (by first | (with_reducible assumption) | assumption); obtain ⟨ad618, e618, hx618_0⟩ := Kd.at_bool HR0_6.out a1 p618 q618; (try rw [← Nbq6.out] at hx618_0); cases e618; replace hx618_0 := (HB.out.cell (World.block_lt_of_cell? w _ hx618_0)).trans hx618_0; replace p618 := eq_true p618; replace q618 := eq_true q618))
      go_ret
      exact ⟨by first | rfl | (simp [errW_none, errW_some] <;> rfl) | (simp [*, errW_none, errW_some] <;> rfl), by repeat (first | (with_reducible first | exact HB.out | apply below_alloc | apply pw_below_drewN | apply below_drew1 | refine below_set ?_ GE617.out) | exact HB.out)⟩
     ·rw [if_neg c10] at H
      have c10b0 : decide (a1 < 0) = false := decide_eq_false c10
      clear c10
      obtain rfl := Option.some.inj H
      go_enter Tryd.func101, Tryd.ntmps101
      go_wp2_with (first | ((with_reducible refine gate_dst (N := 2) rfl ?_); refine box_event ?hg (N := 2) ?hd (cs := #[.int .i64 a0_0, .slice A0_1 l0_1.length c0_1, .slice A0_2 l0_2.length c0_2, .int .i64 a0_3, .slice A0_4 l0_4.length c0_4, .slice A0_5 l0_5.length c0_5, .slice A0_6 l0_6.length c0_6, .bool a0_7]) (t := 60) ?hr ?_; (case hd => rfl); (case hg => rfl); (case hr => first | (go_simp; done) | (go_simp; rfl)); intro gb617 hg w13 hbox hb; have n0_ := Aside0.mk (below_step (by repeat (first | (with_reducible first | exact HB.out | apply below_alloc | apply pw_below_drewN | apply below_drew1) | exact HB.out)) hb); have n1_ := Aside0.mk (hbox); have n2_ := Aside0.mk ((by rw [hg]; exact (below_size (by repeat (first | (with_reducible first | exact HB.out | apply below_alloc | apply pw_below_drewN | apply below_drew1) | exact HB.out))) : w.heap.size ≤ gb617)); have n3_ := Aside0.mk ((by rw [hg]; exact (below_size (by repeat (first | (with_reducible first | exact HB.out | apply below_alloc | apply pw_below_drewN | apply below_drew1) | exact HB.out))) : w.heap.size ≤ gb617)); clear HB; have HB := n0_; have BK617 := n1_; have GW617 := n2_; have GE617 := n3_; clear n0_ n1_ n2_ n3_; clear hb hbox hg; have hcz14_0 : w13.cell? ⟨gb617, 0, none⟩ = some (.int .i64 a0_0) := (blk_cell BK617.out 0).trans rfl; have hcz14_1 : w13.cell? ⟨gb617, 1, none⟩ = some (.slice A0_1 l0_1.length c0_1) := (blk_cell BK617.out 1).trans rfl; have hcz14_2 : w13.cell? ⟨gb617, 2, none⟩ = some (.slice A0_2 l0_2.length c0_2) := (blk_cell BK617.out 2).trans rfl; have hcz14_3 : w13.cell? ⟨gb617, 3, none⟩ = some (.int .i64 a0_3) := (blk_cell BK617.out 3).trans rfl; have hcz14_4 : w13.cell? ⟨gb617, 4, none⟩ = some (.slice A0_4 l0_4.length c0_4) := (blk_cell BK617.out 4).trans rfl; have hcz14_5 : w13.cell? ⟨gb617, 5, none⟩ = some (.slice A0_5 l0_5.length c0_5) := (blk_cell BK617.out 5).trans rfl; have hcz14_6 : w13.cell? ⟨gb617, 6, none⟩ = some (.slice A0_6 l0_6.length c0_6) := (blk_cell BK617.out 6).trans rfl; have hcz14_7 : w13.cell? ⟨gb617, 7, none⟩ = some (.bool a0_7) := (blk_cell BK617.out 7).trans rfl; have hfz14_0 := blk_frozen BK617.out 0; have hfz14_1 := blk_frozen BK617.out 1; have hfz14_2 := blk_frozen BK617.out 2; have hfz14_3 := blk_frozen BK617.out 3; have hfz14_4 := blk_frozen BK617.out 4; have hfz14_5 := blk_frozen BK617.out 5; have hfz14_6 := blk_frozen BK617.out 6; have hfz14_7 := blk_frozen BK617.out 7; have p618 : 0 ≤ (a1 : Int) := of_decide_eq_true (by first | (with_reducible assumption) | assumption); have q618 : a1 < (l0_6.length : Int) := of_decide_eq_true (by first | (with_reducible assumption) | assumption); obtain ⟨ad618, e618, hx618_0⟩ := Kd.at_bool HR0_6.out a1 p618 q618; (try rw [← Nbq6.out] at hx618_0); cases e618; replace hx618_0 := (HB.out.cell (World.block_lt_of_cell? w _ hx618_0)).trans hx618_0; replace p618 := eq_true p618; replace q618 := eq_true q618))
      go_ret
      exact ⟨by first | rfl | (simp [errW_none, errW_some] <;> rfl) | (simp [*, errW_none, errW_some] <;> rfl), by repeat (first | (with_reducible first | exact HB.out | apply below_alloc | apply pw_below_drewN | apply below_drew1 | refine below_set ?_ GE617.out) | exact HB.out)⟩
   ·rw [if_neg c5] at H
    exact absurd H (by simp)
  ·rw [if_neg c4] at H
   exact absurd H (by simp)
 ·rw [if_neg c3] at H
  have c3b0 : decide (0 ≤ a1) = false := decide_eq_false c3
  clear c3
  by_cases c15 : a1 < 0
  ·rw [if_pos c15] at H
   have c15b0 : decide (a1 < 0) = true := decide_eq_true c15
   clear c15
   obtain rfl := Option.some.inj H
   go_enter Tryd.func101, Tryd.ntmps101
   go_wp2_with (first | ((with_reducible refine gate_dst (N := 2) rfl ?_); refine box_event ?hg (N := 2) ?hd (cs := #[.int .i64 a0_0, .slice A0_1 l0_1.length c0_1, .slice A0_2 l0_2.length c0_2, .int .i64 a0_3, .slice A0_4 l0_4.length c0_4, .slice A0_5 l0_5.length c0_5, .slice A0_6 l0_6.length c0_6, .bool a0_7]) (t := 60) ?hr ?_; (case hd => rfl); (case hg => rfl); (case hr => first | (go_simp; done) | (go_simp; rfl)); intro gb617 hg w16 hbox hb; have n0_ := Aside0.mk (below_step (by repeat (first | (with_reducible first | exact HB.out | apply below_alloc | apply pw_below_drewN | apply below_drew1) | exact HB.out)) hb); have n1_ := Aside0.mk (hbox); have n2_ := Aside0.mk ((by rw [hg]; exact (below_size (by repeat (first | (with_reducible first | exact HB.out | apply below_alloc | apply pw_below_drewN | apply below_drew1) | exact HB.out))) : w.heap.size ≤ gb617)); have n3_ := Aside0.mk ((by rw [hg]; exact (below_size (by repeat (first | (with_reducible first | exact HB.out | apply below_alloc | apply pw_below_drewN | apply below_drew1) | exact HB.out))) : w.heap.size ≤ gb617)); clear HB; have HB := n0_; have BK617 := n1_; have GW617 := n2_; have GE617 := n3_; clear n0_ n1_ n2_ n3_; clear hb hbox hg; have hcz17_0 : w16.cell? ⟨gb617, 0, none⟩ = some (.int .i64 a0_0) := (blk_cell BK617.out 0).trans rfl; have hcz17_1 : w16.cell? ⟨gb617, 1, none⟩ = some (.slice A0_1 l0_1.length c0_1) := (blk_cell BK617.out 1).trans rfl; have hcz17_2 : w16.cell? ⟨gb617, 2, none⟩ = some (.slice A0_2 l0_2.length c0_2) := (blk_cell BK617.out 2).trans rfl; have hcz17_3 : w16.cell? ⟨gb617, 3, none⟩ = some (.int .i64 a0_3) := (blk_cell BK617.out 3).trans rfl; have hcz17_4 : w16.cell? ⟨gb617, 4, none⟩ = some (.slice A0_4 l0_4.length c0_4) := (blk_cell BK617.out 4).trans rfl; have hcz17_5 : w16.cell? ⟨gb617, 5, none⟩ = some (.slice A0_5 l0_5.length c0_5) := (blk_cell BK617.out 5).trans rfl; have hcz17_6 : w16.cell? ⟨gb617, 6, none⟩ = some (.slice A0_6 l0_6.length c0_6) := (blk_cell BK617.out 6).trans rfl; have hcz17_7 : w16.cell? ⟨gb617, 7, none⟩ = some (.bool a0_7) := (blk_cell BK617.out 7).trans rfl; have hfz17_0 := blk_frozen BK617.out 0; have hfz17_1 := blk_frozen BK617.out 1; have hfz17_2 := blk_frozen BK617.out 2; have hfz17_3 := blk_frozen BK617.out 3; have hfz17_4 := blk_frozen BK617.out 4; have hfz17_5 := blk_frozen BK617.out 5; have hfz17_6 := blk_frozen BK617.out 6; have hfz17_7 := blk_frozen BK617.out 7))
   go_ret
   exact ⟨by first | rfl | (simp [errW_none, errW_some] <;> rfl) | (simp [*, errW_none, errW_some] <;> rfl), by repeat (first | (with_reducible first | exact HB.out | apply below_alloc | apply pw_below_drewN | apply below_drew1 | refine below_set ?_ GE617.out) | exact HB.out)⟩
  ·rw [if_neg c15] at H
   have c15b0 : decide (a1 < 0) = false := decide_eq_false c15
   clear c15
   obtain rfl := Option.some.inj H
   go_enter Tryd.func101, Tryd.ntmps101
   go_wp2_with (first | ((with_reducible refine gate_dst (N := 2) rfl ?_); refine box_event ?hg (N := 2) ?hd (cs := #[.int .i64 a0_0, .slice A0_1 l0_1.length c0_1, .slice A0_2 l0_2.length c0_2, .int .i64 a0_3, .slice A0_4 l0_4.length c0_4, .slice A0_5 l0_5.length c0_5, .slice A0_6 l0_6.length c0_6, .bool a0_7]) (t := 60) ?hr ?_; (case hd => rfl); (case hg => rfl); (case hr => first | (go_simp; done) | (go_simp; rfl)); intro gb617 hg w18 hbox hb; have n0_ := Aside0.mk (below_step (by repeat (first | (with_reducible first | exact HB.out | apply below_alloc | apply pw_below_drewN | apply below_drew1) | exact HB.out)) hb); have n1_ := Aside0.mk (hbox); have n2_ := Aside0.mk ((by rw [hg]; exact (below_size (by repeat (first | (with_reducible first | exact HB.out | apply below_alloc | apply pw_below_drewN | apply below_drew1) | exact HB.out))) : w.heap.size ≤ gb617)); have n3_ := Aside0.mk ((by rw [hg]; exact (below_size (by repeat (first | (with_reducible first | exact HB.out | apply below_alloc | apply pw_below_drewN | apply below_drew1) | exact HB.out))) : w.heap.size ≤ gb617)); clear HB; have HB := n0_; have BK617 := n1_; have GW617 := n2_; have GE617 := n3_; clear n0_ n1_ n2_ n3_; clear hb hbox hg))
   go_ret
   exact ⟨by first | rfl | (simp [errW_none, errW_some] <;> rfl) | (simp [*, errW_none, errW_some] <;> rfl), by repeat (first | (with_reducible first | exact HB.out | apply below_alloc | apply pw_below_drewN | apply below_drew1 | refine below_set ?_ GE617.out) | exact HB.out)⟩
end Go.Proofs.YtfonajakaimnoaaDoor.Lib

namespace Go.Proofs.YtfonajakaimnoaaDoor.Lib
open Go.RowKit Go.Proofs.YtfonajakaimnoaaDoorW.PrintWords Go.Proofs.YtfonajakaimnoaaDoorW.PrintLast Go.Proofs.YtfonajakaimnoaaDoorW.PrintMore
attribute [local go_sem] max2_int min2_int max_two min_two max_three min_three max_four min_four   -- for this text's walks alone
set_option linter.unusedVariables false
set_option linter.unusedSimpArgs false
def caesuraref14_Breaks.l0 : Nat → List Int → List Int → List Int → Int → Int → List (List Int) → List (List Int) → Int → List (List Int) → List (List Int) → List Bool → Bool → Option (List Int × Int)
 | 0, _, _, _, _, _, _, _, _, _, _, _, _ => none
 | k + 1, x1, x6, x8, x9, x620000, x620001, x620002, x620003, x620004, x620005, x620006, x620007 => if x9 < (x6.length : Int) then (if 0 ≤ x9 then ((caesuraref14_Says.f x620000 x620001 x620002 x620003 x620004 x620005 x620006 x620007 (rd x6 x9)).bind fun t628 => (if t628 = true then (if x8.length < 17592186044416 then (caesuraref14_Breaks.l0 k x1 x6 (x8 ++ [wrap64 (x9 + 1)]) (wrap64 (x9 + 1)) x620000 x620001 x620002 x620003 x620004 x620005 x620006 x620007) else (none)) else (caesuraref14_Breaks.l0 k x1 x6 x8 (wrap64 (x9 + 1)) x620000 x620001 x620002 x620003 x620004 x620005 x620006 x620007))) else (none)) else (if x8.length < 17592186044416 then (some ((x8 ++ [(x1.length : Int)]), 0)) else (none))
def caesuraref14_Breaks.f (k : Nat) (a0_0 : Int) (l0_1 : List (List Int)) (l0_2 : List (List Int)) (a0_3 : Int) (l0_4 : List (List Int)) (l0_5 : List (List Int)) (l0_6 : List Bool) (a0_7 : Bool) (l1 : List Int) : Option (List Int × Int) := (caesuraref14_Decide.f k a0_0 l0_1 l0_2 a0_3 l0_4 l0_5 l0_6 a0_7 l1).bind fun bt620 => (if bt620.2 = 0 then (if (l1.length : Int) = 0 then (some (([] : List Int), 0)) else (caesuraref14_Breaks.l0 k l1 bt620.1 (([0] : List Int)) 0 a0_0 l0_1 l0_2 a0_3 l0_4 l0_5 l0_6 a0_7)) else (some (([] : List Int), bt620.2)))
set_option maxHeartbeats 8000000 in
set_option maxRecDepth 100000 in
theorem caesuraref14_Breaks.calls (k : Nat) (a0_0 : Int) (A0_1 : Option Addr) (c0_1 : Nat) (l0_1 : List (List Int)) (A0_2 : Option Addr) (c0_2 : Nat) (l0_2 : List (List Int)) (a0_3 : Int) (A0_4 : Option Addr) (c0_4 : Nat) (l0_4 : List (List Int)) (A0_5 : Option Addr) (c0_5 : Nat) (l0_5 : List (List Int)) (A0_6 : Option Addr) (c0_6 : Nat) (l0_6 : List Bool) (a0_7 : Bool) (A1 : Option Addr) (c1 : Nat) (l1 : List Int) (r1 : List Int) (r2 : Int) (w : World) (hr0_1 : Kd.C (Kd.slice 3 (Kd.int .i64)) w A0_1 l0_1.length l0_1) (hc0_1 : l0_1.length ≤ c0_1) (hr0_2 : Kd.C (Kd.slice 3 (Kd.int .i64)) w A0_2 l0_2.length l0_2) (hc0_2 : l0_2.length ≤ c0_2) (hr0_4 : Kd.C (Kd.slice 3 (Kd.int .i64)) w A0_4 l0_4.length l0_4) (hc0_4 : l0_4.length ≤ c0_4) (hr0_5 : Kd.C (Kd.slice 3 (Kd.int .i64)) w A0_5 l0_5.length l0_5) (hc0_5 : l0_5.length ≤ c0_5) (hr0_6 : Kd.C Kd.bool w A0_6 l0_6.length l0_6) (hc0_6 : l0_6.length ≤ c0_6) (hr1 : Kd.C (Kd.int .i64) w A1 l1.length l1) (hc1 : l1.length ≤ c1) (h : caesuraref14_Breaks.f k a0_0 l0_1 l0_2 a0_3 l0_4 l0_5 l0_6 a0_7 l1 = some (r1, r2)) :
  Calls Tryd.prog 42 #[.agg #[.int .i64 a0_0, .slice A0_1 l0_1.length c0_1, .slice A0_2 l0_2.length c0_2, .int .i64 a0_3, .slice A0_4 l0_4.length c0_4, .slice A0_5 l0_5.length c0_5, .slice A0_6 l0_6.length c0_6, .bool a0_7], .slice A1 l1.length c1] w fun e w' => ∃ v0_ : Value, e = .returned (.tuple #[v0_, .int .i64 r2]) ∧ Kd.R (Kd.int .i64) 3 w' w.heap.size (fun _ => True) v0_ r1 ∧ Below w.heap.size w w' := by
 have hu60 := Tryd.underlying60
 have HR0_1 := Aside0.mk hr0_1
 have HC0_1 := Aside0.mk hc0_1
 clear hr0_1 hc0_1
 have HR0_2 := Aside0.mk hr0_2
 have HC0_2 := Aside0.mk hc0_2
 clear hr0_2 hc0_2
 have HR0_4 := Aside0.mk hr0_4
 have HC0_4 := Aside0.mk hc0_4
 clear hr0_4 hc0_4
 have HR0_5 := Aside0.mk hr0_5
 have HC0_5 := Aside0.mk hc0_5
 clear hr0_5 hc0_5
 have HR0_6 := Aside0.mk hr0_6
 have HC0_6 := Aside0.mk hc0_6
 clear hr0_6 hc0_6
 have HR1 := Aside0.mk hr1
 have HC1 := Aside0.mk hc1
 clear hr1 hc1
 have HB := Aside0.mk (Below.refl w.heap.size w)
 have H : ((caesuraref14_Decide.f k a0_0 l0_1 l0_2 a0_3 l0_4 l0_5 l0_6 a0_7 l1).bind fun bt620 => (if bt620.2 = 0 then (if (l1.length : Int) = 0 then (some (([] : List Int), 0)) else (caesuraref14_Breaks.l0 k l1 bt620.1 (([0] : List Int)) 0 a0_0 l0_1 l0_2 a0_3 l0_4 l0_5 l0_6 a0_7)) else (some (([] : List Int), bt620.2)))) = some (r1, r2) := h
 clear h
 replace H := Option.bind_eq_some_iff.mp H
 obtain ⟨⟨t620, t623⟩, A30, H⟩ := H
 replace H : (if t623 = 0 then (if (l1.length : Int) = 0 then (some (([] : List Int), 0)) else (caesuraref14_Breaks.l0 k l1 t620 (([0] : List Int)) 0 a0_0 l0_1 l0_2 a0_3 l0_4 l0_5 l0_6 a0_7)) else (some (([] : List Int), t623))) = some (r1, r2) := H
 have A3 := Aside0.mk A30
 clear A30
 by_cases c4 : t623 = 0
 ·rw [if_pos c4] at H
  have c4b0 : (t623 == 0) = true := beq_iff_eq.mpr c4
  have c4b1 : (t623 != 0) = false := bne_eq_false_iff_eq.mpr c4
  clear c4
  by_cases c5 : (l1.length : Int) = 0
  ·rw [if_pos c5] at H
   have c5b0 : ((l1.length : Int) == 0) = true := beq_iff_eq.mpr c5
   have c5b1 : ((l1.length : Int) != 0) = false := bne_eq_false_iff_eq.mpr c5
   clear c5
   simp only [Option.some.injEq, Prod.mk.injEq] at H
   obtain ⟨rfl, rfl⟩ := H
   go_enter Tryd.func42, Tryd.ntmps42
   go_wp2_with (first | ((with_reducible refine gate_dst (N := 2) rfl ?_); refine box_event ?hg (N := 2) ?hd (cs := #[.int .i64 a0_0, .slice A0_1 l0_1.length c0_1, .slice A0_2 l0_2.length c0_2, .int .i64 a0_3, .slice A0_4 l0_4.length c0_4, .slice A0_5 l0_5.length c0_5, .slice A0_6 l0_6.length c0_6, .bool a0_7]) (t := 60) ?hr ?_; (case hd => rfl); (case hg => rfl); (case hr => first | (go_simp; done) | (go_simp; rfl)); intro gb619 hg w6 hbox hb; have n0_ := Aside0.mk (below_step (by repeat (first | (with_reducible first | exact HB.out | apply below_alloc | apply pw_below_drewN | apply below_drew1) | exact HB.out)) hb); have n1_ := Aside0.mk (hbox); have n2_ := Aside0.mk ((by rw [hg]; exact (below_size (by repeat (first | (with_reducible first | exact HB.out | apply below_alloc | apply pw_below_drewN | apply below_drew1) | exact HB.out))) : w.heap.size ≤ gb619)); have n3_ := Aside0.mk ((by rw [hg]; exact (below_size (by repeat (first | (with_reducible first | exact HB.out | apply below_alloc | apply pw_below_drewN | apply below_drew1) | exact HB.out))) : w.heap.size ≤ gb619)); clear HB; have HB := n0_; have BK619 := n1_; have GW619 := n2_; have GE619 := n3_; clear n0_ n1_ n2_ n3_; clear hb hbox hg; have hcz7_0 : w6.cell? ⟨gb619, 0, none⟩ = some (.int .i64 a0_0) := (blk_cell BK619.out 0).trans rfl; have hcz7_1 : w6.cell? ⟨gb619, 1, none⟩ = some (.slice A0_1 l0_1.length c0_1) := (blk_cell BK619.out 1).trans rfl; have hcz7_2 : w6.cell? ⟨gb619, 2, none⟩ = some (.slice A0_2 l0_2.length c0_2) := (blk_cell BK619.out 2).trans rfl; have hcz7_3 : w6.cell? ⟨gb619, 3, none⟩ = some (.int .i64 a0_3) := (blk_cell BK619.out 3).trans rfl; have hcz7_4 : w6.cell? ⟨gb619, 4, none⟩ = some (.slice A0_4 l0_4.length c0_4) := (blk_cell BK619.out 4).trans rfl; have hcz7_5 : w6.cell? ⟨gb619, 5, none⟩ = some (.slice A0_5 l0_5.length c0_5) := (blk_cell BK619.out 5).trans rfl; have hcz7_6 : w6.cell? ⟨gb619, 6, none⟩ = some (.slice A0_6 l0_6.length c0_6) := (blk_cell BK619.out 6).trans rfl; have hcz7_7 : w6.cell? ⟨gb619, 7, none⟩ = some (.bool a0_7) := (blk_cell BK619.out 7).trans rfl; have hfz7_0 := blk_frozen BK619.out 0; have hfz7_1 := blk_frozen BK619.out 1; have hfz7_2 := blk_frozen BK619.out 2; have hfz7_3 := blk_frozen BK619.out 3; have hfz7_4 := blk_frozen BK619.out 4; have hfz7_5 := blk_frozen BK619.out 5; have hfz7_6 := blk_frozen BK619.out 6; have hfz7_7 := blk_frozen BK619.out 7) | ((with_reducible refine gate_callee (f := 40) rfl ?_); refine goesL_ (some 14) rfl rfl Tryd.func40 (by kernel_rfl) rfl #[.agg #[.int .i64 a0_0, .slice A0_1 l0_1.length c0_1, .slice A0_2 l0_2.length c0_2, .int .i64 a0_3, .slice A0_4 l0_4.length c0_4, .slice A0_5 l0_5.length c0_5, .slice A0_6 l0_6.length c0_6, .bool a0_7], .slice A1 l1.length c1] rfl (by (try simp only [List.map_toArray, List.map_cons, List.map_nil]); first | done | rfl | (simp only [List.length_drop, List.length_take]; rfl)) ?_; (with_reducible refine (caesuraref14_Decide.calls k a0_0 _ _ l0_1 _ _ l0_2 a0_3 _ _ l0_4 _ _ l0_5 _ _ l0_6 a0_7 _ _ l1 t620 t623 _ ?side1 ?side2 ?side3 ?side4 ?side5 ?side6 ?side7 ?side8 ?side9 ?side10 ?side11 ?side12 A3.out).mono ?_); (case side1 => repeat (first | exact (Kd.C_below HR0_1.out HB.out) | (with_reducible refine Kd.C_alloc ?_ _) | (with_reducible refine Kd.C_drewN ?_ _) | (with_reducible refine Kd.C_drew ?_))); (case side2 => exact HC0_1.out); (case side3 => repeat (first | exact (Kd.C_below HR0_2.out HB.out) | (with_reducible refine Kd.C_alloc ?_ _) | (with_reducible refine Kd.C_drewN ?_ _) | (with_reducible refine Kd.C_drew ?_))); (case side4 => exact HC0_2.out); (case side5 => repeat (first | exact (Kd.C_below HR0_4.out HB.out) | (with_reducible refine Kd.C_alloc ?_ _) | (with_reducible refine Kd.C_drewN ?_ _) | (with_reducible refine Kd.C_drew ?_))); (case side6 => exact HC0_4.out); (case side7 => repeat (first | exact (Kd.C_below HR0_5.out HB.out) | (with_reducible refine Kd.C_alloc ?_ _) | (with_reducible refine Kd.C_drewN ?_ _) | (with_reducible refine Kd.C_drew ?_))); (case side8 => exact HC0_5.out); (case side9 => repeat (first | exact (Kd.C_below HR0_6.out HB.out) | (with_reducible refine Kd.C_alloc ?_ _) | (with_reducible refine Kd.C_drewN ?_ _) | (with_reducible refine Kd.C_drew ?_))); (case side10 => exact HC0_6.out); (case side11 => repeat (first | exact (Kd.C_below HR1.out HB.out) | (with_reducible refine Kd.C_alloc ?_ _) | (with_reducible refine Kd.C_drewN ?_ _) | (with_reducible refine Kd.C_drew ?_))); (case side12 => exact HC1.out); rintro e w8 ⟨v621, rfl, ho0, hb⟩; refine ⟨_, rfl, ?_⟩; have n0_ := Aside0.mk (Kd.R_lower ho0 (below_size (by repeat (first | (with_reducible first | exact HB.out | apply below_alloc | apply pw_below_drewN | apply below_drew1 | refine below_set ?_ GE619.out) | exact HB.out)))); have n1_ := Aside0.mk (blk_below (g := gb619) (o := .cells #[.int .i64 a0_0, .slice A0_1 l0_1.length c0_1, .slice A0_2 l0_2.length c0_2, .int .i64 a0_3, .slice A0_4 l0_4.length c0_4, .slice A0_5 l0_5.length c0_5, .slice A0_6 l0_6.length c0_6, .bool a0_7] 60 (0, 0)) (by (with_reducible repeat (first | refine blk_drewN ?_ _ | refine blk_drew ?_ | refine blk_alloc ?_ _)); exact BK619.out) hb); have n2_ := Aside0.mk (below_step (by repeat (first | (with_reducible first | exact HB.out | apply below_alloc | apply pw_below_drewN | apply below_drew1 | refine below_set ?_ GE619.out) | exact HB.out)) hb); clear BK619; clear HB; have HO622 := n0_; have BK619 := n1_; have HB := n2_; clear n0_ n1_ n2_; (try clear hb); (try clear hb2); (try clear hk); (try clear hi); (try clear ho0)))
   go_ret2
   exact ⟨_, by first | rfl | (simp [errW_none, errW_some] <;> rfl) | (simp [*, errW_none, errW_some] <;> rfl), by first | exact Kd.R_nil _ _ _ _ _ | exact Kd.N_nil _ _ _ _ _ | exact Kd.V_nil _ _ _ _ _ | exact Kd.Q_nil _ _ _ _ _ | exact Kd.S_nil _ _ _ _ _, by repeat (first | (with_reducible first | exact HB.out | apply below_alloc | apply pw_below_drewN | apply below_drew1 | refine below_set ?_ GE619.out) | exact HB.out)⟩
  ·rw [if_neg c5] at H
   have c5b0 : ((l1.length : Int) == 0) = false := beq_eq_false_iff_ne.mpr c5
   have c5b1 : ((l1.length : Int) != 0) = true := bne_iff_ne.mpr c5
   have c5b2 : ¬ (l1 = []) := fun h_ => c5 (by rw [h_]; rfl)
   obtain ⟨y624, hy624⟩ : ∃ y_ : List Int, y_ = (([0] : List Int)) := ⟨_, rfl⟩
   replace H : (caesuraref14_Breaks.l0 k l1 t620 y624 0 a0_0 l0_1 l0_2 a0_3 l0_4 l0_5 l0_6 a0_7) = some (r1, r2) := by first | (rw [hy624]; with_reducible exact H) | (have H2_ := (Option.bind_some _ _).symm.trans H; rw [hy624]; with_reducible exact H2_) | (have H2_ := (Option.bind_some _ _).symm.trans H; with_reducible exact H2_) | with_reducible exact H | (rw [hy624]; exact H) | exact H
   have Ny624 := Aside0.mk hy624
   clear hy624
   have H' := Aside0.mk H
   clear H
   go_enter Tryd.func42, Tryd.ntmps42
   go_wp2_with (first | ((with_reducible refine gate_dst (N := 2) rfl ?_); refine box_event ?hg (N := 2) ?hd (cs := #[.int .i64 a0_0, .slice A0_1 l0_1.length c0_1, .slice A0_2 l0_2.length c0_2, .int .i64 a0_3, .slice A0_4 l0_4.length c0_4, .slice A0_5 l0_5.length c0_5, .slice A0_6 l0_6.length c0_6, .bool a0_7]) (t := 60) ?hr ?_; (case hd => rfl); (case hg => rfl); (case hr => first | (go_simp; done) | (go_simp; rfl)); intro gb619 hg w9 hbox hb; have n0_ := Aside0.mk (below_step (by repeat (first | (with_reducible first | exact HB.out | apply below_alloc | apply pw_below_drewN | apply below_drew1) | exact HB.out)) hb); have n1_ := Aside0.mk (hbox); have n2_ := Aside0.mk ((by rw [hg]; exact (below_size (by repeat (first | (with_reducible first | exact HB.out | apply below_alloc | apply pw_below_drewN | apply below_drew1) | exact HB.out))) : w.heap.size ≤ gb619)); have n3_ := Aside0.mk ((by rw [hg]; exact (below_size (by repeat (first | (with_reducible first | exact HB.out | apply below_alloc | apply pw_below_drewN | apply below_drew1) | exact HB.out))) : w.heap.size ≤ gb619)); clear HB; have HB := n0_; have BK619 := n1_; have GW619 := n2_; have GE619 := n3_; clear n0_ n1_ n2_ n3_; clear hb hbox hg; have hcz10_0 : w9.cell? ⟨gb619, 0, none⟩ = some (.int .i64 a0_0) := (blk_cell BK619.out 0).trans rfl; have hcz10_1 : w9.cell? ⟨gb619, 1, none⟩ = some (.slice A0_1 l0_1.length c0_1) := (blk_cell BK619.out 1).trans rfl; have hcz10_2 : w9.cell? ⟨gb619, 2, none⟩ = some (.slice A0_2 l0_2.length c0_2) := (blk_cell BK619.out 2).trans rfl; have hcz10_3 : w9.cell? ⟨gb619, 3, none⟩ = some (.int .i64 a0_3) := (blk_cell BK619.out 3).trans rfl; have hcz10_4 : w9.cell? ⟨gb619, 4, none⟩ = some (.slice A0_4 l0_4.length c0_4) := (blk_cell BK619.out 4).trans rfl; have hcz10_5 : w9.cell? ⟨gb619, 5, none⟩ = some (.slice A0_5 l0_5.length c0_5) := (blk_cell BK619.out 5).trans rfl; have hcz10_6 : w9.cell? ⟨gb619, 6, none⟩ = some (.slice A0_6 l0_6.length c0_6) := (blk_cell BK619.out 6).trans rfl; have hcz10_7 : w9.cell? ⟨gb619, 7, none⟩ = some (.bool a0_7) := (blk_cell BK619.out 7).trans rfl; have hfz10_0 := blk_frozen BK619.out 0; have hfz10_1 := blk_frozen BK619.out 1; have hfz10_2 := blk_frozen BK619.out 2; have hfz10_3 := blk_frozen BK619.out 3; have hfz10_4 := blk_frozen BK619.out 4; have hfz10_5 := blk_frozen BK619.out 5; have hfz10_6 := blk_frozen BK619.out 6; have hfz10_7 := blk_frozen BK619.out 7) | ((with_reducible refine gate_callee (f := 40) rfl ?_); refine goesL_ (some 14) rfl rfl Tryd.func40 (by kernel_rfl) rfl #[.agg #[.int .i64 a0_0, .slice A0_1 l0_1.length c0_1, .slice A0_2 l0_2.length c0_2, .int .i64 a0_3, .slice A0_4 l0_4.length c0_4, .slice A0_5 l0_5.length c0_5, .slice A0_6 l0_6.length c0_6, .bool a0_7], .slice A1 l1.length c1] rfl (by (try simp only [List.map_toArray, List.map_cons, List.map_nil]); first | done | rfl | (simp only [List.length_drop, List.length_take]; rfl)) ?_; (with_reducible refine (caesuraref14_Decide.calls k a0_0 _ _ l0_1 _ _ l0_2 a0_3 _ _ l0_4 _ _ l0_5 _ _ l0_6 a0_7 _ _ l1 t620 t623 _ ?side1 ?side2 ?side3 ?side4 ?side5 ?side6 ?side7 ?side8 ?side9 ?side10 ?side11 ?side12 A3.out).mono ?_); (case side1 => repeat (first | exact (Kd.C_below HR0_1.out HB.out) | (with_reducible refine Kd.C_alloc ?_ _) | (with_reducible refine Kd.C_drewN ?_ _) | (with_reducible refine Kd.C_drew ?_))); (case side2 => exact HC0_1.out); (case side3 => repeat (first | exact (Kd.C_below HR0_2.out HB.out) | (with_reducible refine Kd.C_alloc ?_ _) | (with_reducible refine Kd.C_drewN ?_ _) | (with_reducible refine Kd.C_drew ?_))); (case side4 => exact HC0_2.out); (case side5 => repeat (first | exact (Kd.C_below HR0_4.out HB.out) | (with_reducible refine Kd.C_alloc ?_ _) | (with_reducible refine Kd.C_drewN ?_ _) | (with_reducible refine Kd.C_drew ?_))); (case side6 => exact HC0_4.out); (case side7 => repeat (first | exact (Kd.C_below HR0_5.out HB.out) | (with_reducible refine Kd.C_alloc ?_ _) | (with_reducible refine Kd.C_drewN ?_ _) | (with_reducible refine Kd.C_drew ?_))); (case side8 => exact HC0_5.out); (case side9 => repeat (first | exact (Kd.C_below HR0_6.out HB.out) | (with_reducible refine Kd.C_alloc ?_ _) | (with_reducible refine Kd.C_drewN ?_ _) | (with_reducible refine Kd.C_drew ?_))); (case side10 => exact HC0_6.out); (case side11 => repeat (first | exact (Kd.C_below HR1.out HB.out) | (with_reducible refine Kd.C_alloc ?_ _) | (with_reducible refine Kd.C_drewN ?_ _) | (with_reducible refine Kd.C_drew ?_))); (case side12 => exact HC1.out); rintro e w11 ⟨v621, rfl, ho0, hb⟩; refine ⟨_, rfl, ?_⟩; have n0_ := Aside0.mk (Kd.R_lower ho0 (below_size (by repeat (first | (with_reducible first | exact HB.out | apply below_alloc | apply pw_below_drewN | apply below_drew1 | refine below_set ?_ GE619.out) | exact HB.out)))); have n1_ := Aside0.mk (blk_below (g := gb619) (o := .cells #[.int .i64 a0_0, .slice A0_1 l0_1.length c0_1, .slice A0_2 l0_2.length c0_2, .int .i64 a0_3, .slice A0_4 l0_4.length c0_4, .slice A0_5 l0_5.length c0_5, .slice A0_6 l0_6.length c0_6, .bool a0_7] 60 (0, 0)) (by (with_reducible repeat (first | refine blk_drewN ?_ _ | refine blk_drew ?_ | refine blk_alloc ?_ _)); exact BK619.out) hb); have n2_ := Aside0.mk (below_step (by repeat (first | (with_reducible first | exact HB.out | apply below_alloc | apply pw_below_drewN | apply below_drew1 | refine below_set ?_ GE619.out) | exact HB.out)) hb); clear BK619; clear HB; have HO622 := n0_; have BK619 := n1_; have HB := n2_; clear n0_ n1_ n2_; (try clear hb); (try clear hb2); (try clear hk); (try clear hi); (try clear ho0)) | ((with_reducible refine gate_dst (N := 23) rfl ?_); refine Kd.R_lit (Kd.int .i64) _ 3 ?hg (N := 23) ?hd (xs := ([0] : List Int)) (inner := [.int .i64 0]) (ok := fun _ => True) (okp := fun _ => True) ?hr ?hp (fun _ hk => hk) trivial (Below.refl _ _) (Nat.le_refl _) (by simp) ?_; (case hd => rfl); (case hg => rfl); (case hr => first | (go_simp; done) | (go_simp; rfl)); (case hp => exact (Reps.one (show Kd.M (Kd.int .i64) _ _ _ 0 [.int .i64 0] from rfl) (Reps.none _ _))); intro v625 w12 ho13 hb hg_ hnew_; clear hg_ hnew_; (first | rw [← Ny624.out] at ho13 | (simp only [Int.reduceToNat] at ho13; rw [← Ny624.out] at ho13)); have n0_ := Aside0.mk (Kd.R_elder' (by (with_reducible repeat (first | apply Kd.R_alloc | apply Kd.R_drewN | apply Kd.R_drew)); exact HO622.out) (Kd.R_base ho13) hb); have n1_ := Aside0.mk (Kd.R_lower (Kd.R_new' ho13 (Kd.R_lt (by (with_reducible repeat (first | apply Kd.R_alloc | apply Kd.R_drewN | apply Kd.R_drew)); exact HO622.out))) (below_size (by repeat (first | (with_reducible first | exact HB.out | apply below_alloc | apply pw_below_drewN | apply below_drew1 | refine below_set ?_ GE619.out) | exact HB.out)))); have n2_ := Aside0.mk (blk_below (g := gb619) (o := .cells #[.int .i64 a0_0, .slice A0_1 l0_1.length c0_1, .slice A0_2 l0_2.length c0_2, .int .i64 a0_3, .slice A0_4 l0_4.length c0_4, .slice A0_5 l0_5.length c0_5, .slice A0_6 l0_6.length c0_6, .bool a0_7] 60 (0, 0)) (by (with_reducible repeat (first | refine blk_drewN ?_ _ | refine blk_drew ?_ | refine blk_alloc ?_ _)); exact BK619.out) hb); have n3_ := Aside0.mk (below_step (by repeat (first | (with_reducible first | exact HB.out | apply below_alloc | apply pw_below_drewN | apply below_drew1 | refine below_set ?_ GE619.out) | exact HB.out)) hb); clear HO622; clear BK619; clear HB; have HO622 := n0_; have HO626 := n1_; have BK619 := n2_; have HB := n3_; clear n0_ n1_ n2_ n3_; clear hb ho13))
   go_loopg [8, 9] k (fun kq v8 v9 w' => ∃ (x8_1 : List Int) (x9_1 : Int), v9 = .int .i64 x9_1 ∧ Aside0 (caesuraref14_Breaks.l0 kq l1 t620 x8_1 x9_1 a0_0 l0_1 l0_2 a0_3 l0_4 l0_5 l0_6 a0_7 = some (r1, r2)) ∧ Aside0 (kq ≤ k) ∧ Aside0 (Kd.R (Kd.int .i64) 3 w' w.heap.size (fun k_ => some k_ ≠ (v8 : Value).ownBlock) v621 t620) ∧ Aside0 (Kd.R (Kd.int .i64) 3 w' w.heap.size (fun k_ => some k_ ≠ (v621 : Value).ownBlock) v8 x8_1) ∧ Aside0 (w'.heap[gb619]? = some (.cells #[.int .i64 a0_0, (.slice A0_1 l0_1.length c0_1), (.slice A0_2 l0_2.length c0_2), .int .i64 a0_3, (.slice A0_4 l0_4.length c0_4), (.slice A0_5 l0_5.length c0_5), (.slice A0_6 l0_6.length c0_6), .bool a0_7] 60 (0, 0))) ∧ Aside0 (Below w.heap.size w w'))
   case atStart => exact ⟨(y624), (0), (by first | rfl | (simp; done) | (simp [*]; done)), H', ⟨Nat.le_refl _⟩, ⟨by (with_reducible repeat (first | apply Kd.R_alloc | apply Kd.R_drewN | apply Kd.R_drew)); exact Kd.R_mono HO622.out (fun _ hk => hk.2)⟩, ⟨by (with_reducible repeat (first | apply Kd.R_alloc | apply Kd.R_drewN | apply Kd.R_drew)); exact Kd.R_mono HO626.out (fun _ hk => hk.2)⟩, ⟨by (with_reducible repeat (first | refine blk_drewN ?_ _ | refine blk_drew ?_ | refine blk_alloc ?_ _)); exact BK619.out⟩, ⟨by repeat (first | (with_reducible first | exact HB.out | apply below_alloc | apply pw_below_drewN | apply below_drew1 | refine below_set ?_ GE619.out) | exact HB.out)⟩⟩
   case round =>
    clear H'
    try clear c1
    try clear p2
    try clear c4
    try clear c4b0
    try clear c4b1
    try clear c5
    try clear c5b0
    try clear c5b1
    try clear c5b2
    try clear hcz10_0
    try clear hcz10_1
    try clear hcz10_2
    try clear hcz10_3
    try clear hcz10_4
    try clear hcz10_5
    try clear hcz10_6
    try clear hcz10_7
    try clear hcz7_0
    try clear hcz7_1
    try clear hcz7_2
    try clear hcz7_3
    try clear hcz7_4
    try clear hcz7_5
    try clear hcz7_6
    try clear hcz7_7
    try clear hfz10_0
    try clear hfz10_1
    try clear hfz10_2
    try clear hfz10_3
    try clear hfz10_4
    try clear hfz10_5
    try clear hfz10_6
    try clear hfz10_7
    try clear hfz7_0
    try clear hfz7_1
    try clear hfz7_2
    try clear hfz7_3
    try clear hfz7_4
    try clear hfz7_5
    try clear hfz7_6
    try clear hfz7_7
    obtain ⟨x8_1, x9_1, rfl, HA, HK1, HO_6, HO_8, BK619, HB⟩ := hrel
    cases gk with
    | zero => exact absurd HA.out (by simp [caesuraref14_Breaks.l0])
    | succ k1 =>
     have H := HA.out
     clear HA
     simp only [caesuraref14_Breaks.l0] at H
     by_cases c14 : x9_1 < (t620.length : Int)
     ·rw [if_pos c14] at H
      have c14b0 : decide (x9_1 < (t620.length : Int)) = true := decide_eq_true c14
      clear c14
      by_cases c15 : 0 ≤ x9_1
      ·rw [if_pos c15] at H
       have c15b0 : decide (0 ≤ x9_1) = true := decide_eq_true c15
       clear c15
       replace H := Option.bind_eq_some_iff.mp H
       obtain ⟨t628, A160, H⟩ := H
       replace H : (if t628 = true then (if x8_1.length < 17592186044416 then (caesuraref14_Breaks.l0 k1 l1 t620 (x8_1 ++ [wrap64 (x9_1 + 1)]) (wrap64 (x9_1 + 1)) a0_0 l0_1 l0_2 a0_3 l0_4 l0_5 l0_6 a0_7) else (none)) else (caesuraref14_Breaks.l0 k1 l1 t620 x8_1 (wrap64 (x9_1 + 1)) a0_0 l0_1 l0_2 a0_3 l0_4 l0_5 l0_6 a0_7)) = some (r1, r2) := H
       have A16 := Aside0.mk A160
       clear A160
       by_cases c17 : t628 = true
       ·subst c17
        have H1 : (if x8_1.length < 17592186044416 then (caesuraref14_Breaks.l0 k1 l1 t620 (x8_1 ++ [wrap64 (x9_1 + 1)]) (wrap64 (x9_1 + 1)) a0_0 l0_1 l0_2 a0_3 l0_4 l0_5 l0_6 a0_7) else (none)) = some (r1, r2) := by rw [if_pos rfl] at H; exact H
        clear H
        have H := H1
        clear H1
        by_cases c18 : x8_1.length < 17592186044416
        ·rw [if_pos c18] at H
         have LMc18 := Aside0.mk c18
         clear c18
         obtain ⟨y629, hy629⟩ : ∃ y_ : List Int, y_ = (x8_1 ++ [wrap64 (x9_1 + 1)]) := ⟨_, rfl⟩
         replace H : (caesuraref14_Breaks.l0 k1 l1 t620 y629 (wrap64 (x9_1 + 1)) a0_0 l0_1 l0_2 a0_3 l0_4 l0_5 l0_6 a0_7) = some (r1, r2) := by first | (rw [hy629]; with_reducible exact H) | (have H2_ := (Option.bind_some _ _).symm.trans H; rw [hy629]; with_reducible exact H2_) | (have H2_ := (Option.bind_some _ _).symm.trans H; with_reducible exact H2_) | with_reducible exact H | (rw [hy629]; exact H) | exact H
         have Ny629 := Aside0.mk hy629
         clear hy629
         have H' := Aside0.mk H
         clear H
         obtain ⟨Ao19, co19, eo19⟩ := Kd.R_slice HO_6.out
         subst eo19
         try go_wp2
         have n0_ := Aside0.mk (Kd.R_drew HO_6.out)
         have n1_ := Aside0.mk (Kd.R_drew HO_8.out)
         have n2_ := Aside0.mk (blk_drew BK619.out)
         have n3_ := Aside0.mk (below_drew1 HB.out)
         clear HO_6
         clear HO_8
         clear BK619
         clear HB
         have HO_6 := n0_
         have HO_8 := n1_
         have BK619 := n2_
         have HB := n3_
         clear n0_ n1_ n2_ n3_
         have p627 : 0 ≤ (x9_1 : Int) := of_decide_eq_true (by first | (with_reducible assumption) | assumption)
         have q627 : x9_1 < (t620.length : Int) := of_decide_eq_true (by first | (with_reducible assumption) | assumption)
         obtain ⟨ad627, e627, hx627_0⟩ := Kd.at_int (Kd.R_reads' HO_6.out).2.2 x9_1 p627 q627
         cases e627
         replace p627 := eq_true p627
         replace q627 := eq_true q627
         refine start_ (n := 7) (S := fun w' => w'.cell? ⟨gb619, 0, none⟩ = some (.int .i64 a0_0) ∧ w'.cell? ⟨gb619, 1, none⟩ = some (.slice A0_1 l0_1.length c0_1) ∧ w'.cell? ⟨gb619, 2, none⟩ = some (.slice A0_2 l0_2.length c0_2) ∧ w'.cell? ⟨gb619, 3, none⟩ = some (.int .i64 a0_3) ∧ w'.cell? ⟨gb619, 4, none⟩ = some (.slice A0_4 l0_4.length c0_4) ∧ w'.cell? ⟨gb619, 5, none⟩ = some (.slice A0_5 l0_5.length c0_5) ∧ w'.cell? ⟨gb619, 6, none⟩ = some (.slice A0_6 l0_6.length c0_6) ∧ w'.cell? ⟨gb619, 7, none⟩ = some (.bool a0_7) ∧ w'.cell? (ad627.add (x9_1).toNat) = some (.int .i64 (rd t620 x9_1))) (ds := []) #[false, false, false, false, false, false, false] (by kernel_rfl) rfl rfl ⟨(blk_cell BK619.out 0).trans rfl, (blk_cell BK619.out 1).trans rfl, (blk_cell BK619.out 2).trans rfl, (blk_cell BK619.out 3).trans rfl, (blk_cell BK619.out 4).trans rfl, (blk_cell BK619.out 5).trans rfl, (blk_cell BK619.out 6).trans rfl, (blk_cell BK619.out 7).trans rfl, hx627_0⟩ (fun hHeld => ?_)
         generalize wr.drew = w20 at HO_6 HO_8 BK619 HB hx627_0 hHeld ⊢
         refine pure_ (i := 1) (N := some 31) (v := ?_) (a' := ?_) #[false, true, false, false, false, false, false] rfl rfl (by kernel_rfl) (fun _ _ _ h => h) (Or.inl ⟨by rfl, ?_⟩) ?_ ?_
         rotate_left
         ·intro w'
          go_simp
          with_reducible rfl
         rotate_left
         ·simp only [Act.put, List.setIfInBounds_toArray, List.set_cons_zero, List.set_cons_succ, i64_w, i32_w]
          rfl
         refine pure_ (i := 2) (N := some 32) (v := ?_) (a' := ?_) #[false, true, true, false, false, false, false] rfl rfl (by kernel_rfl) (fun _ _ _ h => h) (Or.inl ⟨by rfl, ?_⟩) ?_ ?_
         rotate_left
         ·intro w'
          go_simp
          with_reducible rfl
         rotate_left
         ·simp only [Act.put, List.setIfInBounds_toArray, List.set_cons_zero, List.set_cons_succ, i64_w, i32_w]
          rfl
         refine pure_ (i := 3) (N := some 33) (v := ?_) (a' := ?_) #[false, true, true, true, false, false, false] rfl rfl (by kernel_rfl) (fun _ _ _ h => h) (Or.inl ⟨by rfl, ?_⟩) ?_ ?_
         rotate_left
         ·intro w'
          go_simp
          with_reducible rfl
         rotate_left
         ·simp only [Act.put, List.setIfInBounds_toArray, List.set_cons_zero, List.set_cons_succ, i64_w, i32_w]
          rfl
         refine take_ (i := 0) (N := some 30) (v := ?_) (a' := ?_) #[true, true, true, true, false, false, false] rfl rfl (by kernel_rfl) (fun _ _ _ h => h) (Or.inl ⟨by rfl, ?_⟩) hHeld ?_ ?_
         rotate_left
         ·rintro w' ⟨s0, s1, s2, s3, s4, s5, s6, s7, s8⟩
          go_simp
          with_reducible rfl
         rotate_left
         ·simp only [Act.put, List.setIfInBounds_toArray, List.set_cons_zero, List.set_cons_succ, i64_w, i32_w]
          rfl
         refine take_ (i := 4) (N := some 34) (v := ?_) (a' := ?_) #[true, true, true, true, true, false, false] rfl rfl (by kernel_rfl) (fun _ _ _ h => h) (Or.inl ⟨by rfl, ?_⟩) hHeld ?_ ?_
         rotate_left
         ·rintro w' ⟨s0, s1, s2, s3, s4, s5, s6, s7, s8⟩
          go_simp
          with_reducible rfl
         rotate_left
         ·simp only [Act.put, List.setIfInBounds_toArray, List.set_cons_zero, List.set_cons_succ, i64_w, i32_w]
          rfl
         refine one_ (i := 5) (N := some 35) #[true, true, true, true, true, true, false] rfl rfl (by kernel_rfl) (by decide) (fun K hK => ?_)
         refine goes_ Tryd.func101 (by kernel_rfl) rfl #[.agg #[.int .i64 a0_0, .slice A0_1 l0_1.length c0_1, .slice A0_2 l0_2.length c0_2, .int .i64 a0_3, .slice A0_4 l0_4.length c0_4, .slice A0_5 l0_5.length c0_5, .slice A0_6 l0_6.length c0_6, .bool a0_7], .int .i64 (rd t620 x9_1)] (by rfl) rfl rfl (by (try simp only [List.map_toArray, List.map_cons, List.map_nil]); first | done | rfl | (simp only [List.length_drop, List.length_take]; rfl)) ?_
         with_reducible refine (caesuraref14_Says.calls a0_0 _ _ l0_1 _ _ l0_2 a0_3 _ _ l0_4 _ _ l0_5 _ _ l0_6 a0_7 (rd t620 x9_1) true _ ?side1 ?side2 ?side3 ?side4 ?side5 ?side6 ?side7 ?side8 ?side9 ?side10 A16.out).mono ?_
         (case side1 => repeat (first | exact (Kd.C_below HR0_1.out HB.out) | (with_reducible refine Kd.C_alloc ?_ _) | (with_reducible refine Kd.C_drewN ?_ _) | (with_reducible refine Kd.C_drew ?_)))
         (case side2 => exact HC0_1.out)
         (case side3 => repeat (first | exact (Kd.C_below HR0_2.out HB.out) | (with_reducible refine Kd.C_alloc ?_ _) | (with_reducible refine Kd.C_drewN ?_ _) | (with_reducible refine Kd.C_drew ?_)))
         (case side4 => exact HC0_2.out)
         (case side5 => repeat (first | exact (Kd.C_below HR0_4.out HB.out) | (with_reducible refine Kd.C_alloc ?_ _) | (with_reducible refine Kd.C_drewN ?_ _) | (with_reducible refine Kd.C_drew ?_)))
         (case side6 => exact HC0_4.out)
         (case side7 => repeat (first | exact (Kd.C_below HR0_5.out HB.out) | (with_reducible refine Kd.C_alloc ?_ _) | (with_reducible refine Kd.C_drewN ?_ _) | (with_reducible refine Kd.C_drew ?_)))
         (case side8 => exact HC0_5.out)
         (case side9 => repeat (first | exact (Kd.C_below HR0_6.out HB.out) | (with_reducible refine Kd.C_alloc ?_ _) | (with_reducible refine Kd.C_drewN ?_ _) | (with_reducible refine Kd.C_drew ?_)))
         (case side10 => exact HC0_6.out)
         rintro e w21 ⟨rfl, hb⟩
         have HS8_ := (hb.cell (World.block_lt_of_cell? _ _ (hHeld.2.2.2.2.2.2.2.2))).trans (hHeld.2.2.2.2.2.2.2.2)
         refine ⟨_, rfl, ?_⟩
         have n0_ := Aside0.mk (Kd.R_below (by (with_reducible repeat (first | apply Kd.R_alloc | apply Kd.R_drewN | apply Kd.R_drew)); exact HO_6.out) hb)
         have n1_ := Aside0.mk (Kd.R_below (by (with_reducible repeat (first | apply Kd.R_alloc | apply Kd.R_drewN | apply Kd.R_drew)); exact HO_8.out) hb)
         have n2_ := Aside0.mk (blk_below (g := gb619) (o := .cells #[.int .i64 a0_0, .slice A0_1 l0_1.length c0_1, .slice A0_2 l0_2.length c0_2, .int .i64 a0_3, .slice A0_4 l0_4.length c0_4, .slice A0_5 l0_5.length c0_5, .slice A0_6 l0_6.length c0_6, .bool a0_7] 60 (0, 0)) (by (with_reducible repeat (first | refine blk_drewN ?_ _ | refine blk_drew ?_ | refine blk_alloc ?_ _)); exact BK619.out) hb)
         have n3_ := Aside0.mk (below_step (by repeat (first | (with_reducible first | exact HB.out | apply below_alloc | apply pw_below_drewN | apply below_drew1 | refine below_set ?_ GE619.out) | exact HB.out)) hb)
         clear HO_6
         clear HO_8
         clear BK619
         clear HB
         have HO_6 := n0_
         have HO_8 := n1_
         have BK619 := n2_
         have HB := n3_
         clear n0_ n1_ n2_ n3_
         (try clear hb)
         (try clear hb2)
         (try clear hk)
         (try clear hi)
         refine hK.out _ _ ⟨(blk_cell BK619.out 0).trans rfl, (blk_cell BK619.out 1).trans rfl, (blk_cell BK619.out 2).trans rfl, (blk_cell BK619.out 3).trans rfl, (blk_cell BK619.out 4).trans rfl, (blk_cell BK619.out 5).trans rfl, (blk_cell BK619.out 6).trans rfl, (blk_cell BK619.out 7).trans rfl, HS8_⟩ (fun hHeld => ?_)
         clear hK K
         refine norm_ (a' := ?_) ?_ ?_
         rotate_left
         ·show Act.put _ (some 35) _ = _
          simp only [Act.put, List.setIfInBounds_toArray, List.set_cons_zero, List.set_cons_succ, i64_w, i32_w]
          rfl
         refine pure_ (i := 6) (N := some 10) (v := ?_) (a' := ?_) #[true, true, true, true, true, true, true] rfl rfl (by kernel_rfl) (fun _ _ _ h => h) (Or.inl ⟨by rfl, ?_⟩) ?_ ?_
         rotate_left
         ·intro w'
          go_simp
          with_reducible rfl
         rotate_left
         ·simp only [Act.put, List.setIfInBounds_toArray, List.set_cons_zero, List.set_cons_succ, i64_w, i32_w]
          rfl
         refine done_ (by kernel_rfl) ?_
         try go_wp2_with (first | ((with_reducible refine gate_builtin (b := .append) (xs := #[.tmp 37, .tmp 40]) rfl ?_); at_builtin; refine Kd.R_append (Kd.int .i64) (w0 := w) w.heap.size rfl (.tmp 37) (.tmp 40) 25 3 (.int .i64 0) 8 rfl Tryd.underlying25 info3 rfl (by decide) (by omega) u8 x8_1 (wrap64 (x9_1 + 1)) [.int .i64 (wrap64 (x9_1 + 1))] (fun k_ => some k_ ≠ (.slice (some ad627) t620.length co19 : Value).ownBlock) (fun _ => False) rfl rfl ?aP (fun _ hk => hk.elim) ?aF ?aO ?aB ?aS ?aL ?_; (case aP => exact rfl); (case aB => exact (by repeat (first | (with_reducible first | exact HB.out | apply below_alloc | apply pw_below_drewN | apply below_drew1 | refine below_set ?_ GE619.out) | exact HB.out))); (case aF => exact (fun k_ hk => Kd.fresh' (Kd.R_lt (by (with_reducible repeat (first | apply Kd.R_alloc | apply Kd.R_drewN | apply Kd.R_drew)); exact HO_6.out)) k_ hk)); (case aO => exact (by (with_reducible repeat (first | apply Kd.R_alloc | apply Kd.R_drewN | apply Kd.R_drew)); exact HO_8.out)); (case aS => exact (below_size (by repeat (first | (with_reducible first | exact HB.out | apply below_alloc | apply pw_below_drewN | apply below_drew1 | refine below_set ?_ GE619.out) | exact HB.out)))); (case aL => have := LMc18.out; omega); intro v630 w22 ho hb hg hat; rw [← Ny629.out] at ho; have n0_ := Aside0.mk (Kd.R_after (ok := (fun _ => True)) (by (with_reducible repeat (first | apply Kd.R_alloc | apply Kd.R_drewN | apply Kd.R_drew)); exact Kd.R_mono HO_6.out (fun _ hk => ⟨trivial, hk⟩)) hg hat); have n1_ := Aside0.mk (blk_grown (g := gb619) (o := .cells #[.int .i64 a0_0, .slice A0_1 l0_1.length c0_1, .slice A0_2 l0_2.length c0_2, .int .i64 a0_3, .slice A0_4 l0_4.length c0_4, .slice A0_5 l0_5.length c0_5, .slice A0_6 l0_6.length c0_6, .bool a0_7] 60 (0, 0)) (by (with_reducible repeat (first | refine blk_drewN ?_ _ | refine blk_drew ?_ | refine blk_alloc ?_ _)); exact BK619.out) hg (Kd.R_ne HO_8.out BK619.out (by decide))); have n2_ := Aside0.mk (hb); have n3_ := Aside0.mk (ho); clear HO_6; clear BK619; clear HB; clear HO_8; have HO_6 := n0_; have BK619 := n1_; have HB := n2_; have HO631 := n3_; clear n0_ n1_ n2_ n3_; clear ho hb hg hat))
         go_roundg k1
         case measure => have := HK1.out; omega
         case rel => exact ⟨(y629), (wrap64 (x9_1 + 1)), (by first | rfl | (simp; done) | (simp [*]; done)), H', ⟨by have := HK1.out; omega⟩, ⟨by (with_reducible repeat (first | apply Kd.R_alloc | apply Kd.R_drewN | apply Kd.R_drew)); exact Kd.R_mono HO_6.out (fun _ hk => hk.2)⟩, ⟨by (with_reducible repeat (first | apply Kd.R_alloc | apply Kd.R_drewN | apply Kd.R_drew)); exact HO631.out⟩, ⟨by (with_reducible repeat (first | refine blk_drewN ?_ _ | refine blk_drew ?_ | refine blk_alloc ?_ _)); exact BK619.out⟩, ⟨by repeat (first | (with_reducible first | exact HB.out | apply below_alloc | apply pw_below_drewN | apply below_drew1 | refine below_set ?_ GE619.out) | exact HB.out)⟩⟩
        ·rw [if_neg c18] at H
         exact absurd H (by simp)
       ·replace c17 := Bool.eq_false_iff.mpr c17
        subst c17
        have H1 : (caesuraref14_Breaks.l0 k1 l1 t620 x8_1 (wrap64 (x9_1 + 1)) a0_0 l0_1 l0_2 a0_3 l0_4 l0_5 l0_6 a0_7) = some (r1, r2) := by rw [if_neg (show ¬ (false = true) by decide)] at H; exact H
        clear H
        have H := H1
        clear H1
        have H' := Aside0.mk H
        clear H
        obtain ⟨Ao23, co23, eo23⟩ := Kd.R_slice HO_6.out
        subst eo23
        try go_wp2
        have n0_ := Aside0.mk (Kd.R_drew HO_6.out)
        have n1_ := Aside0.mk (Kd.R_drew HO_8.out)
        have n2_ := Aside0.mk (blk_drew BK619.out)
        have n3_ := Aside0.mk (below_drew1 HB.out)
        clear HO_6
        clear HO_8
        clear BK619
        clear HB
        have HO_6 := n0_
        have HO_8 := n1_
        have BK619 := n2_
        have HB := n3_
        clear n0_ n1_ n2_ n3_
        have p627 : 0 ≤ (x9_1 : Int) := of_decide_eq_true (by first | (with_reducible assumption) | assumption)
        have q627 : x9_1 < (t620.length : Int) := of_decide_eq_true (by first | (with_reducible assumption) | assumption)
        obtain ⟨ad627, e627, hx627_0⟩ := Kd.at_int (Kd.R_reads' HO_6.out).2.2 x9_1 p627 q627
        cases e627
        replace p627 := eq_true p627
        replace q627 := eq_true q627
        refine start_ (n := 7) (S := fun w' => w'.cell? ⟨gb619, 0, none⟩ = some (.int .i64 a0_0) ∧ w'.cell? ⟨gb619, 1, none⟩ = some (.slice A0_1 l0_1.length c0_1) ∧ w'.cell? ⟨gb619, 2, none⟩ = some (.slice A0_2 l0_2.length c0_2) ∧ w'.cell? ⟨gb619, 3, none⟩ = some (.int .i64 a0_3) ∧ w'.cell? ⟨gb619, 4, none⟩ = some (.slice A0_4 l0_4.length c0_4) ∧ w'.cell? ⟨gb619, 5, none⟩ = some (.slice A0_5 l0_5.length c0_5) ∧ w'.cell? ⟨gb619, 6, none⟩ = some (.slice A0_6 l0_6.length c0_6) ∧ w'.cell? ⟨gb619, 7, none⟩ = some (.bool a0_7) ∧ w'.cell? (ad627.add (x9_1).toNat) = some (.int .i64 (rd t620 x9_1))) (ds := []) #[false, false, false, false, false, false, false] (by kernel_rfl) rfl rfl ⟨(blk_cell BK619.out 0).trans rfl, (blk_cell BK619.out 1).trans rfl, (blk_cell BK619.out 2).trans rfl, (blk_cell BK619.out 3).trans rfl, (blk_cell BK619.out 4).trans rfl, (blk_cell BK619.out 5).trans rfl, (blk_cell BK619.out 6).trans rfl, (blk_cell BK619.out 7).trans rfl, hx627_0⟩ (fun hHeld => ?_)
        generalize wr.drew = w24 at HO_6 HO_8 BK619 HB hx627_0 hHeld ⊢
        refine pure_ (i := 1) (N := some 31) (v := ?_) (a' := ?_) #[false, true, false, false, false, false, false] rfl rfl (by kernel_rfl) (fun _ _ _ h => h) (Or.inl ⟨by rfl, ?_⟩) ?_ ?_
        rotate_left
        ·intro w'
         go_simp
         with_reducible rfl
        rotate_left
        ·simp only [Act.put, List.setIfInBounds_toArray, List.set_cons_zero, List.set_cons_succ, i64_w, i32_w]
         rfl
        refine pure_ (i := 2) (N := some 32) (v := ?_) (a' := ?_) #[false, true, true, false, false, false, false] rfl rfl (by kernel_rfl) (fun _ _ _ h => h) (Or.inl ⟨by rfl, ?_⟩) ?_ ?_
        rotate_left
        ·intro w'
         go_simp
         with_reducible rfl
        rotate_left
        ·simp only [Act.put, List.setIfInBounds_toArray, List.set_cons_zero, List.set_cons_succ, i64_w, i32_w]
         rfl
        refine pure_ (i := 3) (N := some 33) (v := ?_) (a' := ?_) #[false, true, true, true, false, false, false] rfl rfl (by kernel_rfl) (fun _ _ _ h => h) (Or.inl ⟨by rfl, ?_⟩) ?_ ?_
        rotate_left
        ·intro w'
         go_simp
         with_reducible rfl
        rotate_left
        ·simp only [Act.put, List.setIfInBounds_toArray, List.set_cons_zero, List.set_cons_succ, i64_w, i32_w]
         rfl
        refine take_ (i := 0) (N := some 30) (v := ?_) (a' := ?_) #[true, true, true, true, false, false, false] rfl rfl (by kernel_rfl) (fun _ _ _ h => h) (Or.inl ⟨by rfl, ?_⟩) hHeld ?_ ?_
        rotate_left
        ·rintro w' ⟨s0, s1, s2, s3, s4, s5, s6, s7, s8⟩
         go_simp
         with_reducible rfl
        rotate_left
        ·simp only [Act.put, List.setIfInBounds_toArray, List.set_cons_zero, List.set_cons_succ, i64_w, i32_w]
         rfl
        refine take_ (i := 4) (N := some 34) (v := ?_) (a' := ?_) #[true, true, true, true, true, false, false] rfl rfl (by kernel_rfl) (fun _ _ _ h => h) (Or.inl ⟨by rfl, ?_⟩) hHeld ?_ ?_
        rotate_left
        ·rintro w' ⟨s0, s1, s2, s3, s4, s5, s6, s7, s8⟩
         go_simp
         with_reducible rfl
        rotate_left
        ·simp only [Act.put, List.setIfInBounds_toArray, List.set_cons_zero, List.set_cons_succ, i64_w, i32_w]
         rfl
        refine one_ (i := 5) (N := some 35) #[true, true, true, true, true, true, false] rfl rfl (by kernel_rfl) (by decide) (fun K hK => ?_)
        refine goes_ Tryd.func101 (by kernel_rfl) rfl #[.agg #[.int .i64 a0_0, .slice A0_1 l0_1.length c0_1, .slice A0_2 l0_2.length c0_2, .int .i64 a0_3, .slice A0_4 l0_4.length c0_4, .slice A0_5 l0_5.length c0_5, .slice A0_6 l0_6.length c0_6, .bool a0_7], .int .i64 (rd t620 x9_1)] (by rfl) rfl rfl (by (try simp only [List.map_toArray, List.map_cons, List.map_nil]); first | done | rfl | (simp only [List.length_drop, List.length_take]; rfl)) ?_
        with_reducible refine (caesuraref14_Says.calls a0_0 _ _ l0_1 _ _ l0_2 a0_3 _ _ l0_4 _ _ l0_5 _ _ l0_6 a0_7 (rd t620 x9_1) false _ ?side1 ?side2 ?side3 ?side4 ?side5 ?side6 ?side7 ?side8 ?side9 ?side10 A16.out).mono ?_
        (case side1 => repeat (first | exact (Kd.C_below HR0_1.out HB.out) | (with_reducible refine Kd.C_alloc ?_ _) | (with_reducible refine Kd.C_drewN ?_ _) | (with_reducible refine Kd.C_drew ?_)))
        (case side2 => exact HC0_1.out)
        (case side3 => repeat (first | exact (Kd.C_below HR0_2.out HB.out) | (with_reducible refine Kd.C_alloc ?_ _) | (with_reducible refine Kd.C_drewN ?_ _) | (with_reducible refine Kd.C_drew ?_)))
        (case side4 => exact HC0_2.out)
        (case side5 => repeat (first | exact (Kd.C_below HR0_4.out HB.out) | (with_reducible refine Kd.C_alloc ?_ _) | (with_reducible refine Kd.C_drewN ?_ _) | (with_reducible refine Kd.C_drew ?_)))
        (case side6 => exact HC0_4.out)
        (case side7 => repeat (first | exact (Kd.C_below HR0_5.out HB.out) | (with_reducible refine Kd.C_alloc ?_ _) | (with_reducible refine Kd.C_drewN ?_ _) | (with_reducible refine Kd.C_drew ?_)))
        (case side8 => exact HC0_5.out)
        (case side9 => repeat (first | exact (Kd.C_below HR0_6.out HB.out) | (with_reducible refine Kd.C_alloc ?_ _) | (with_reducible refine Kd.C_drewN ?_ _) | (with_reducible refine Kd.C_drew ?_)))
        (case side10 => exact HC0_6.out)
        rintro e w25 ⟨rfl, hb⟩
        have HS8_ := (hb.cell (World.block_lt_of_cell? _ _ (hHeld.2.2.2.2.2.2.2.2))).trans (hHeld.2.2.2.2.2.2.2.2)
        refine ⟨_, rfl, ?_⟩
        have n0_ := Aside0.mk (Kd.R_below (by (with_reducible repeat (first | apply Kd.R_alloc | apply Kd.R_drewN | apply Kd.R_drew)); exact HO_6.out) hb)
        have n1_ := Aside0.mk (Kd.R_below (by (with_reducible repeat (first | apply Kd.R_alloc | apply Kd.R_drewN | apply Kd.R_drew)); exact HO_8.out) hb)
        have n2_ := Aside0.mk (blk_below (g := gb619) (o := .cells #[.int .i64 a0_0, .slice A0_1 l0_1.length c0_1, .slice A0_2 l0_2.length c0_2, .int .i64 a0_3, .slice A0_4 l0_4.length c0_4, .slice A0_5 l0_5.length c0_5, .slice A0_6 l0_6.length c0_6, .bool a0_7] 60 (0, 0)) (by (with_reducible repeat (first | refine blk_drewN ?_ _ | refine blk_drew ?_ | refine blk_alloc ?_ _)); exact BK619.out) hb)
        have n3_ := Aside0.mk (below_step (by repeat (first | (with_reducible first | exact HB.out | apply below_alloc | apply pw_below_drewN | apply below_drew1 | refine below_set ?_ GE619.out) | exact HB.out)) hb)
        clear HO_6
        clear HO_8
        clear BK619
        clear HB
        have HO_6 := n0_
        have HO_8 := n1_
        have BK619 := n2_
        have HB := n3_
        clear n0_ n1_ n2_ n3_
        (try clear hb)
        (try clear hb2)
        (try clear hk)
        (try clear hi)
        refine hK.out _ _ ⟨(blk_cell BK619.out 0).trans rfl, (blk_cell BK619.out 1).trans rfl, (blk_cell BK619.out 2).trans rfl, (blk_cell BK619.out 3).trans rfl, (blk_cell BK619.out 4).trans rfl, (blk_cell BK619.out 5).trans rfl, (blk_cell BK619.out 6).trans rfl, (blk_cell BK619.out 7).trans rfl, HS8_⟩ (fun hHeld => ?_)
        clear hK K
        refine norm_ (a' := ?_) ?_ ?_
        rotate_left
        ·show Act.put _ (some 35) _ = _
         simp only [Act.put, List.setIfInBounds_toArray, List.set_cons_zero, List.set_cons_succ, i64_w, i32_w]
         rfl
        refine pure_ (i := 6) (N := some 10) (v := ?_) (a' := ?_) #[true, true, true, true, true, true, true] rfl rfl (by kernel_rfl) (fun _ _ _ h => h) (Or.inl ⟨by rfl, ?_⟩) ?_ ?_
        rotate_left
        ·intro w'
         go_simp
         with_reducible rfl
        rotate_left
        ·simp only [Act.put, List.setIfInBounds_toArray, List.set_cons_zero, List.set_cons_succ, i64_w, i32_w]
         rfl
        refine done_ (by kernel_rfl) ?_
        try go_wp2
        go_roundg k1
        case measure => have := HK1.out; omega
        case rel => exact ⟨(x8_1), (wrap64 (x9_1 + 1)), (by first | rfl | (simp; done) | (simp [*]; done)), H', ⟨by have := HK1.out; omega⟩, ⟨by (with_reducible repeat (first | apply Kd.R_alloc | apply Kd.R_drewN | apply Kd.R_drew)); exact HO_6.out⟩, ⟨by (with_reducible repeat (first | apply Kd.R_alloc | apply Kd.R_drewN | apply Kd.R_drew)); exact HO_8.out⟩, ⟨by (with_reducible repeat (first | refine blk_drewN ?_ _ | refine blk_drew ?_ | refine blk_alloc ?_ _)); exact BK619.out⟩, ⟨by repeat (first | (with_reducible first | exact HB.out | apply below_alloc | apply pw_below_drewN | apply below_drew1 | refine below_set ?_ GE619.out) | exact HB.out)⟩⟩
      ·rw [if_neg c15] at H
       exact absurd H (by simp)
     ·rw [if_neg c14] at H
      have c14b0 : decide (x9_1 < (t620.length : Int)) = false := decide_eq_false c14
      clear c14
      by_cases c26 : x8_1.length < 17592186044416
      ·rw [if_pos c26] at H
       have LMc26 := Aside0.mk c26
       clear c26
       obtain ⟨y632, hy632⟩ : ∃ y_ : List Int, y_ = (x8_1 ++ [(l1.length : Int)]) := ⟨_, rfl⟩
       replace H : (some (y632, 0)) = some (r1, r2) := by first | (rw [hy632]; with_reducible exact H) | (have H2_ := (Option.bind_some _ _).symm.trans H; rw [hy632]; with_reducible exact H2_) | (have H2_ := (Option.bind_some _ _).symm.trans H; with_reducible exact H2_) | with_reducible exact H | (rw [hy632]; exact H) | exact H
       have Ny632 := Aside0.mk hy632
       clear hy632
       simp only [Option.some.injEq, Prod.mk.injEq] at H
       obtain ⟨rfl, rfl⟩ := H
       obtain ⟨Ao27, co27, eo27⟩ := Kd.R_slice HO_6.out
       subst eo27
       go_wp2_with (first | ((with_reducible refine gate_builtin (b := .append) (xs := #[.tmp 42, .tmp 45]) rfl ?_); at_builtin; refine Kd.R_append (Kd.int .i64) (w0 := w) w.heap.size rfl (.tmp 42) (.tmp 45) 25 3 (.int .i64 0) 8 rfl Tryd.underlying25 info3 rfl (by decide) (by omega) u8 x8_1 (l1.length : Int) [.int .i64 (l1.length : Int)] (fun k_ => some k_ ≠ (.slice Ao27 t620.length co27 : Value).ownBlock) (fun _ => False) rfl rfl ?aP (fun _ hk => hk.elim) ?aF ?aO ?aB ?aS ?aL ?_; (case aP => exact rfl); (case aB => exact (by repeat (first | (with_reducible first | exact HB.out | apply below_alloc | apply pw_below_drewN | apply below_drew1 | refine below_set ?_ GE619.out) | exact HB.out))); (case aF => exact (fun k_ hk => Kd.fresh' (Kd.R_lt (by (with_reducible repeat (first | apply Kd.R_alloc | apply Kd.R_drewN | apply Kd.R_drew)); exact HO_6.out)) k_ hk)); (case aO => exact (by (with_reducible repeat (first | apply Kd.R_alloc | apply Kd.R_drewN | apply Kd.R_drew)); exact HO_8.out)); (case aS => exact (below_size (by repeat (first | (with_reducible first | exact HB.out | apply below_alloc | apply pw_below_drewN | apply below_drew1 | refine below_set ?_ GE619.out) | exact HB.out)))); (case aL => have := LMc26.out; omega); intro v633 w28 ho hb hg hat; rw [← Ny632.out] at ho; have n0_ := Aside0.mk (Kd.R_after (ok := (fun _ => True)) (by (with_reducible repeat (first | apply Kd.R_alloc | apply Kd.R_drewN | apply Kd.R_drew)); exact Kd.R_mono HO_6.out (fun _ hk => ⟨trivial, hk⟩)) hg hat); have n1_ := Aside0.mk (blk_grown (g := gb619) (o := .cells #[.int .i64 a0_0, .slice A0_1 l0_1.length c0_1, .slice A0_2 l0_2.length c0_2, .int .i64 a0_3, .slice A0_4 l0_4.length c0_4, .slice A0_5 l0_5.length c0_5, .slice A0_6 l0_6.length c0_6, .bool a0_7] 60 (0, 0)) (by (with_reducible repeat (first | refine blk_drewN ?_ _ | refine blk_drew ?_ | refine blk_alloc ?_ _)); exact BK619.out) hg (Kd.R_ne HO_8.out BK619.out (by decide))); have n2_ := Aside0.mk (hb); have n3_ := Aside0.mk (ho); clear HO_6; clear BK619; clear HB; clear HO_8; have HO_6 := n0_; have BK619 := n1_; have HB := n2_; have HO634 := n3_; clear n0_ n1_ n2_ n3_; clear ho hb hg hat))
       go_ret2
       exact ⟨_, by first | rfl | (simp [errW_none, errW_some] <;> rfl) | (simp [*, errW_none, errW_some] <;> rfl), by (with_reducible repeat (first | apply Kd.R_alloc | apply Kd.R_drewN | apply Kd.R_drew)); exact Kd.R_mono HO634.out (fun _ hk => trivial), by repeat (first | (with_reducible first | exact HB.out | apply below_alloc | apply pw_below_drewN | apply below_drew1 | refine below_set ?_ GE619.out) | exact HB.out)⟩
      ·rw [if_neg c26] at H
       exact absurd H (by simp)
 ·rw [if_neg c4] at H
  have c4b0 : (t623 == 0) = false := beq_eq_false_iff_ne.mpr c4
  have c4b1 : (t623 != 0) = true := bne_iff_ne.mpr c4
  simp only [Option.some.injEq, Prod.mk.injEq] at H
  obtain ⟨rfl, rfl⟩ := H
  go_enter Tryd.func42, Tryd.ntmps42
  go_wp2_with (first | ((with_reducible refine gate_dst (N := 2) rfl ?_); refine box_event ?hg (N := 2) ?hd (cs := #[.int .i64 a0_0, .slice A0_1 l0_1.length c0_1, .slice A0_2 l0_2.length c0_2, .int .i64 a0_3, .slice A0_4 l0_4.length c0_4, .slice A0_5 l0_5.length c0_5, .slice A0_6 l0_6.length c0_6, .bool a0_7]) (t := 60) ?hr ?_; (case hd => rfl); (case hg => rfl); (case hr => first | (go_simp; done) | (go_simp; rfl)); intro gb619 hg w29 hbox hb; have n0_ := Aside0.mk (below_step (by repeat (first | (with_reducible first | exact HB.out | apply below_alloc | apply pw_below_drewN | apply below_drew1) | exact HB.out)) hb); have n1_ := Aside0.mk (hbox); have n2_ := Aside0.mk ((by rw [hg]; exact (below_size (by repeat (first | (with_reducible first | exact HB.out | apply below_alloc | apply pw_below_drewN | apply below_drew1) | exact HB.out))) : w.heap.size ≤ gb619)); have n3_ := Aside0.mk ((by rw [hg]; exact (below_size (by repeat (first | (with_reducible first | exact HB.out | apply below_alloc | apply pw_below_drewN | apply below_drew1) | exact HB.out))) : w.heap.size ≤ gb619)); clear HB; have HB := n0_; have BK619 := n1_; have GW619 := n2_; have GE619 := n3_; clear n0_ n1_ n2_ n3_; clear hb hbox hg; have hcz30_0 : w29.cell? ⟨gb619, 0, none⟩ = some (.int .i64 a0_0) := (blk_cell BK619.out 0).trans rfl; have hcz30_1 : w29.cell? ⟨gb619, 1, none⟩ = some (.slice A0_1 l0_1.length c0_1) := (blk_cell BK619.out 1).trans rfl; have hcz30_2 : w29.cell? ⟨gb619, 2, none⟩ = some (.slice A0_2 l0_2.length c0_2) := (blk_cell BK619.out 2).trans rfl; have hcz30_3 : w29.cell? ⟨gb619, 3, none⟩ = some (.int .i64 a0_3) := (blk_cell BK619.out 3).trans rfl; have hcz30_4 : w29.cell? ⟨gb619, 4, none⟩ = some (.slice A0_4 l0_4.length c0_4) := (blk_cell BK619.out 4).trans rfl; have hcz30_5 : w29.cell? ⟨gb619, 5, none⟩ = some (.slice A0_5 l0_5.length c0_5) := (blk_cell BK619.out 5).trans rfl; have hcz30_6 : w29.cell? ⟨gb619, 6, none⟩ = some (.slice A0_6 l0_6.length c0_6) := (blk_cell BK619.out 6).trans rfl; have hcz30_7 : w29.cell? ⟨gb619, 7, none⟩ = some (.bool a0_7) := (blk_cell BK619.out 7).trans rfl; have hfz30_0 := blk_frozen BK619.out 0; have hfz30_1 := blk_frozen BK619.out 1; have hfz30_2 := blk_frozen BK619.out 2; have hfz30_3 := blk_frozen BK619.out 3; have hfz30_4 := blk_frozen BK619.out 4; have hfz30_5 := blk_frozen BK619.out 5; have hfz30_6 := blk_frozen BK619.out 6; have hfz30_7 := blk_frozen BK619.out 7) | ((with_reducible refine gate_callee (f := 40) rfl ?_); refine goesL_ (some 14) rfl rfl Tryd.func40 (by kernel_rfl) rfl #[.agg #[.int .i64 a0_0, .slice A0_1 l0_1.length c0_1, .slice A0_2 l0_2.length c0_2, .int .i64 a0_3, .slice A0_4 l0_4.length c0_4, .slice A0_5 l0_5.length c0_5, .slice A0_6 l0_6.length c0_6, .bool a0_7], .slice A1 l1.length c1] rfl (by (try simp only [List.map_toArray, List.map_cons, List.map_nil]); first | done | rfl | (simp only [List.length_drop, List.length_take]; rfl)) ?_; (with_reducible refine (caesuraref14_Decide.calls k a0_0 _ _ l0_1 _ _ l0_2 a0_3 _ _ l0_4 _ _ l0_5 _ _ l0_6 a0_7 _ _ l1 t620 t623 _ ?side1 ?side2 ?side3 ?side4 ?side5 ?side6 ?side7 ?side8 ?side9 ?side10 ?side11 ?side12 A3.out).mono ?_); (case side1 => repeat (first | exact (Kd.C_below HR0_1.out HB.out) | (with_reducible refine Kd.C_alloc ?_ _) | (with_reducible refine Kd.C_drewN ?_ _) | (with_reducible refine Kd.C_drew ?_))); (case side2 => exact HC0_1.out); (case side3 => repeat (first | exact (Kd.C_below HR0_2.out HB.out) | (with_reducible refine Kd.C_alloc ?_ _) | (with_reducible refine Kd.C_drewN ?_ _) | (with_reducible refine Kd.C_drew ?_))); (case side4 => exact HC0_2.out); (case side5 => repeat (first | exact (Kd.C_below HR0_4.out HB.out) | (with_reducible refine Kd.C_alloc ?_ _) | (with_reducible refine Kd.C_drewN ?_ _) | (with_reducible refine Kd.C_drew ?_))); (case side6 => exact HC0_4.out); (case side7 => repeat (first | exact (Kd.C_below HR0_5.out HB.out) | (with_reducible refine Kd.C_alloc ?_ _) | (with_reducible refine Kd.C_drewN ?_ _) | (with_reducible refine Kd.C_drew ?_))); (case side8 => exact HC0_5.out); (case side9 => repeat (first | exact (Kd.C_below HR0_6.out HB.out) | (with_reducible refine Kd.C_alloc ?_ _) | (with_reducible refine Kd.C_drewN ?_ _) | (with_reducible refine Kd.C_drew ?_))); (case side10 => exact HC0_6.out); (case side11 => repeat (first | exact (Kd.C_below HR1.out HB.out) | (with_reducible refine Kd.C_alloc ?_ _) | (with_reducible refine Kd.C_drewN ?_ _) | (with_reducible refine Kd.C_drew ?_))); (case side12 => exact HC1.out); rintro e w31 ⟨v621, rfl, ho0, hb⟩; refine ⟨_, rfl, ?_⟩; have n0_ := Aside0.mk (Kd.R_lower ho0 (below_size (by repeat (first | (with_reducible first | exact HB.out | apply below_alloc | apply pw_below_drewN | apply below_drew1 | refine below_set ?_ GE619.out) | exact HB.out)))); have n1_ := Aside0.mk (blk_below (g := gb619) (o := .cells #[.int .i64 a0_0, .slice A0_1 l0_1.length c0_1, .slice A0_2 l0_2.length c0_2, .int .i64 a0_3, .slice A0_4 l0_4.length c0_4, .slice A0_5 l0_5.length c0_5, .slice A0_6 l0_6.length c0_6, .bool a0_7] 60 (0, 0)) (by (with_reducible repeat (first | refine blk_drewN ?_ _ | refine blk_drew ?_ | refine blk_alloc ?_ _)); exact BK619.out) hb); have n2_ := Aside0.mk (below_step (by repeat (first | (with_reducible first | exact HB.out | apply below_alloc | apply pw_below_drewN | apply below_drew1 | refine below_set ?_ GE619.out) | exact HB.out)) hb); clear BK619; clear HB; have HO622 := n0_; have BK619 := n1_; have HB := n2_; clear n0_ n1_ n2_; (try clear hb); (try clear hb2); (try clear hk); (try clear hi); (try clear ho0)))
  go_ret2
  exact ⟨_, by first | rfl | (simp [errW_none, errW_some] <;> rfl) | (simp [*, errW_none, errW_some] <;> rfl), by first | exact Kd.R_nil _ _ _ _ _ | exact Kd.N_nil _ _ _ _ _ | exact Kd.V_nil _ _ _ _ _ | exact Kd.Q_nil _ _ _ _ _ | exact Kd.S_nil _ _ _ _ _, by repeat (first | (with_reducible first | exact HB.out | apply below_alloc | apply pw_below_drewN | apply below_drew1 | refine below_set ?_ GE619.out) | exact HB.out)⟩
end Go.Proofs.YtfonajakaimnoaaDoor.Lib

namespace Go.Proofs.YtfonajakaimnoaaDoor.C14
open Go.RowKit Go.Proofs.YtfonajakaimnoaaDoorW.PrintWords Go.Proofs.YtfonajakaimnoaaDoorW.PrintLast Go.Proofs.YtfonajakaimnoaaDoorW.PrintMore Go.Proofs.YtfonajakaimnoaaDoor.Lib Lent Go.Proofs.YtfonajakaimnoaaDoor.Fn Go.Proofs.YtfonajakaimnoaaDoor.C11
set_option linter.unusedVariables false
set_option linter.unusedSimpArgs false
def leastL : List Int → List Int → Int
 | [], _ => -1
 | x :: r, b => if b.any (isB x) then x else leastL r b
theorem leastL_nil (a : List Int) : leastL a [] = -1 := by
 induction a with
 | nil => rfl
 | cons x r ih => simp [leastL, ih]
theorem leastL_lt {n : Int} (hn : 0 ≤ n) (a b : List Int) (h : ∀ x ∈ a, x < n) : leastL a b < n := by
 induction a with
 | nil => simp only [leastL]; omega
 | cons x r ih =>
  simp only [leastL]
  split
  ·exact h x (List.mem_cons_self ..)
  ·exact ih (fun y hy => h y (List.mem_cons_of_mem _ hy))
theorem leastL_out (a : List Int) (y : Int) (t : List Int) (h : ∀ x ∈ a, x ≠ y) : leastL a (y :: t) = leastL a t := by
 induction a with
 | nil => rfl
 | cons x r ih =>
  have hx := h x (List.mem_cons_self ..)
  have h2 : (y :: t).any (isB x) = t.any (isB x) := by rw [List.any_cons, show isB x y = false by simp [isB, hx], Bool.false_or]
  show (if (y :: t).any (isB x) = true then x else leastL r (y :: t)) = if t.any (isB x) = true then x else leastL r t
  rw [h2, ih (fun z hz => h z (List.mem_cons_of_mem _ hz))]
theorem rises_gt {pt last : Int} {l : List Int} (h : risesB pt last l = true) : ∀ x ∈ l, last < x ∧ x < pt := by
 induction l generalizing last with
 | nil => intro x hx; cases hx
 | cons y r ih =>
  simp only [risesB, Bool.and_eq_true, Bool.not_eq_true', decide_eq_false_iff_not] at h
  intro x hx
  rcases List.mem_cons.mp hx with rfl | hx
  ·omega
  ·have := ih h.2.2 x hx
   omega
theorem rises_tail {pt last y : Int} {r : List Int} (h : risesB pt last (y :: r) = true) : risesB pt y r = true := by
 simp only [risesB, Bool.and_eq_true] at h
 exact h.2.2
theorem both_ev (pt : Int) : ∀ (m : Nat) (a b : List Int) (la lb : Int), a.length + b.length = m → risesB pt la a = true → risesB pt lb b = true → Ev (fun k => pair_both.l0 k a b) (leastL a b) := by
 intro m
 induction m using Nat.strongRecOn with
 | ind m ih =>
  intro a b la lb hm ha hb
  cases a with
  | nil =>
   refine Ev.step (f := fun k => pair_both.j1 k [] b false) (fun k => ?_) (Ev.step (f := fun _ => some (-1)) (fun k => rfl) (Ev.now _))
   conv => lhs; unfold pair_both.l0
   rw [if_neg (by decide)]
  | cons x r =>
   cases b with
   | nil =>
    rw [leastL_nil]
    refine Ev.step (f := fun k => pair_both.j1 k (x :: r) [] false) (fun k => ?_) (Ev.step (f := fun _ => some (-1)) (fun k => rfl) (Ev.now _))
    conv => lhs; unfold pair_both.l0
    rw [if_pos (by simp only [List.length_cons]; omega)]
    rfl
   | cons y t =>
    have hlx : (0 : Int) < ((x :: r).length : Int) := by simp only [List.length_cons]; omega
    have hly : (0 : Int) < ((y :: t).length : Int) := by simp only [List.length_cons]; omega
    have h1 : ∀ k, pair_both.l0 (k + 1) (x :: r) (y :: t) = pair_both.j1 k (x :: r) (y :: t) true := fun k => by
     conv => lhs; unfold pair_both.l0
     rw [if_pos hlx, decide_eq_true hly]
    have hj : ∀ k, pair_both.j1 (k + 1) (x :: r) (y :: t) true = if x = y then some (mx x y) else if x < mx x y then pair_both.l0 k r (y :: t) else pair_both.l0 k (x :: r) t := fun k => by
     conv => lhs; unfold pair_both.j1
     rw [if_pos rfl, if_pos hlx, if_pos hly, show rd (x :: r) 0 = x from rfl, show rd (y :: t) 0 = y from rfl, if_pos (show (1 : Int) ≤ ((x :: r).length : Int) by omega), if_pos (show (1 : Int) ≤ ((y :: t).length : Int) by omega)]
     rfl
    refine Ev.step h1 ?_
    have hr := rises_tail ha
    have ht := rises_tail hb
    by_cases e : x = y
    ·subst e
     have hl : leastL (x :: r) (x :: t) = x := by simp [leastL, isB]
     rw [hl]
     refine Ev.step (f := fun _ => some x) (fun k => ?_) (Ev.now _)
     rw [hj, if_pos rfl, show mx x x = x by simp [mx]]
    ·by_cases h : x < y
     ·have hm2 : mx x y = y := by simp [mx, h]
      have hl : leastL (x :: r) (y :: t) = leastL r (y :: t) := by
       have : (y :: t).any (isB x) = false := by
        rw [List.any_eq_false]
        intro z hz
        have : y ≤ z := by
         rcases List.mem_cons.mp hz with rfl | hz
         ·omega
         ·have := rises_gt ht z hz
          omega
        simp [isB]
        omega
       simp only [leastL, this]
       rfl
      rw [hl]
      refine Ev.step (fun k => ?_) (ih (r.length + (y :: t).length) (by simp only [List.length_cons] at *; omega) r (y :: t) x lb rfl hr hb)
      rw [hj, if_neg e, hm2, if_pos h]
     ·have hm2 : mx x y = x := by simp [mx, h]
      have hl : leastL (x :: r) (y :: t) = leastL (x :: r) t := by
       refine leastL_out _ _ _ (fun z hz => ?_)
       rcases List.mem_cons.mp hz with rfl | hz
       ·exact e
       ·have := rises_gt hr z hz
        omega
      rw [hl]
      refine Ev.step (fun k => ?_) (ih ((x :: r).length + t.length) (by simp only [List.length_cons] at *; omega) (x :: r) t la y rfl ha ht)
      rw [hj, if_neg e, hm2, if_neg (by omega)]
theorem least_ev (a b : List Int) (ha : a.length ≤ 9223372036854775807) (hb : b.length ≤ 9223372036854775807) : Ev (fun k => caesuraref14_Least.f k a b) (leastL a b) := by
 have key : ∀ (d i : Nat), i ≤ a.length → a.length - i = d → Ev (fun k => caesuraref14_Least.l0 k a b i) (leastL (a.drop i) b) := by
  intro d
  induction d with
  | zero =>
   intro i hi hd
   rw [List.drop_of_length_le (by omega)]
   refine Ev.step (f := fun _ => some (-1)) (fun k => ?_) (Ev.now _)
   conv => lhs; unfold caesuraref14_Least.l0
   rw [if_neg (by omega)]
  | succ d ih =>
   intro i hi hd
   have hil : i < a.length := by omega
   have hnext := ih (i + 1) (by omega) (by omega)
   have hw := wsucc hil ha
   rw [← hw] at hnext
   clear hw
   have inner : ∀ (e j : Nat), j ≤ b.length → b.length - j = e → Ev (fun k => caesuraref14_Least.l1 k a b i j) (if (b.drop j).any (isB a[i]) then a[i] else leastL (a.drop (i + 1)) b) := by
    intro e
    induction e with
    | zero =>
     intro j hj he
     rw [List.drop_of_length_le (show b.length ≤ j by omega)]
     refine Ev.step (fun k => ?_) hnext
     conv => lhs; unfold caesuraref14_Least.l1
     rw [if_neg (by omega)]
    | succ e ihe =>
     intro j hj he
     have hjl : j < b.length := by omega
     have hn2 := ihe (j + 1) (by omega) (by omega)
     have hw := wsucc hjl hb
     rw [← hw] at hn2
     clear hw
     have hq : (b.drop j).any (isB a[i]) = (isB a[i] b[j] || (b.drop (j + 1)).any (isB a[i])) := by rw [List.drop_eq_getElem_cons hjl, List.any_cons]
     by_cases h : a[i] = b[j]
     ·rw [hq, show isB a[i] b[j] = true by simp [isB, h], Bool.true_or]
      refine Ev.step (f := fun _ => some a[i]) (fun k => ?_) (Ev.now _)
      conv => lhs; unfold caesuraref14_Least.l1
      rw [if_pos (by omega), if_pos (by omega), if_pos (by omega), if_pos (by omega), rd_at a i hil, rd_at b j hjl, if_pos h]
     ·rw [hq, show isB a[i] b[j] = false by simp [isB, h], Bool.false_or]
      refine Ev.step (fun k => ?_) hn2
      conv => lhs; unfold caesuraref14_Least.l1
      rw [if_pos (by omega), if_pos (by omega), if_pos (by omega), if_pos (by omega), rd_at a i hil, rd_at b j hjl, if_neg h]
   have h0 := inner b.length 0 (by omega) (by omega)
   rw [List.drop_zero] at h0
   have hl : leastL (a.drop i) b = if b.any (isB a[i]) then a[i] else leastL (a.drop (i + 1)) b := by rw [List.drop_eq_getElem_cons hil]; rfl
   rw [hl]
   refine Ev.step (fun k => ?_) h0
   conv => lhs; unfold caesuraref14_Least.l0
   rw [if_pos (by omega)]
   rfl
 have := key a.length 0 (by omega) (by omega)
 exact this
theorem turned_ev (l : List Int) (hl : l.length ≤ 17592186044400) : Ev (fun k => caesuraref14_turned.f k l) l.reverse := by
 have key : ∀ (i : Nat), i ≤ l.length → Ev (fun k => caesuraref14_turned.l0 k l (l.drop i).reverse ((i : Int) - 1)) l.reverse := by
  intro i
  induction i with
  | zero =>
   intro hi
   refine Ev.step (f := fun _ => some l.reverse) (fun k => ?_) (Ev.now _)
   conv => lhs; unfold caesuraref14_turned.l0
   rw [if_neg (by omega)]
   rfl
  | succ i ih =>
   intro hi
   have hil : i < l.length := by omega
   have hw : wrap64 ((i : Int) - 1) = (i : Int) - 1 := by unfold wrap64; omega
   have hnext := ih (by omega)
   rw [← hw] at hnext
   clear hw
   have e : ((i + 1 : Nat) : Int) - 1 = (i : Int) := by omega
   rw [e]
   refine Ev.step (fun k => ?_) hnext
   conv => lhs; unfold caesuraref14_turned.l0
   rw [if_pos (by omega), if_pos (by omega), if_pos (by omega), if_pos (by simp; omega), rd_at l i hil]
   congr 1
   rw [List.drop_eq_getElem_cons hil, List.reverse_cons]
 have h0 := key l.length (Nat.le_refl _)
 rw [List.drop_of_length_le (Nat.le_refl _)] at h0
 have hw : wrap64 ((l.length : Int) - 1) = (l.length : Int) - 1 := by unfold wrap64; omega
 unfold caesuraref14_turned.f
 rw [hw]
 exact h0
end Go.Proofs.YtfonajakaimnoaaDoor.C14

namespace Go.Proofs.YtfonajakaimnoaaDoor.Lib
open Go.RowKit Go.Proofs.YtfonajakaimnoaaDoorW.PrintWords Go.Proofs.YtfonajakaimnoaaDoorW.PrintLast Go.Proofs.YtfonajakaimnoaaDoorW.PrintMore
attribute [local go_sem] max2_int min2_int max_two min_two max_three min_three max_four min_four   -- for this text's walks alone
set_option linter.unusedVariables false
set_option linter.unusedSimpArgs false
def pair_symbols.f (a0_0 : Int) (l0_1 : List (List Int)) (l0_2 : List (List Int)) (a0_3 : Int) (l0_4 : List (List Int)) (l0_5 : List (List Int)) (l0_6 : List Bool) (a0_7 : Bool) : Option (Int) := if (l0_1.length : Int) = 0 then (some 0) else (if 0 < (l0_1.length : Int) then (some ((rd_L1 l0_1 0).length : Int)) else (none))
set_option maxHeartbeats 8000000 in
set_option maxRecDepth 100000 in
theorem pair_symbols.calls (a0_0 : Int) (A0_1 : Option Addr) (c0_1 : Nat) (l0_1 : List (List Int)) (A0_2 : Option Addr) (c0_2 : Nat) (l0_2 : List (List Int)) (a0_3 : Int) (A0_4 : Option Addr) (c0_4 : Nat) (l0_4 : List (List Int)) (A0_5 : Option Addr) (c0_5 : Nat) (l0_5 : List (List Int)) (A0_6 : Option Addr) (c0_6 : Nat) (l0_6 : List Bool) (a0_7 : Bool) (r : Int) (w : World) (hr0_1 : Kd.C (Kd.slice 3 (Kd.int .i64)) w A0_1 l0_1.length l0_1) (hc0_1 : l0_1.length ≤ c0_1) (hr0_2 : Kd.C (Kd.slice 3 (Kd.int .i64)) w A0_2 l0_2.length l0_2) (hc0_2 : l0_2.length ≤ c0_2) (hr0_4 : Kd.C (Kd.slice 3 (Kd.int .i64)) w A0_4 l0_4.length l0_4) (hc0_4 : l0_4.length ≤ c0_4) (hr0_5 : Kd.C (Kd.slice 3 (Kd.int .i64)) w A0_5 l0_5.length l0_5) (hc0_5 : l0_5.length ≤ c0_5) (hr0_6 : Kd.C Kd.bool w A0_6 l0_6.length l0_6) (hc0_6 : l0_6.length ≤ c0_6) (h : pair_symbols.f a0_0 l0_1 l0_2 a0_3 l0_4 l0_5 l0_6 a0_7 = some r) :
  Calls Tryd.prog 92 #[.agg #[.int .i64 a0_0, .slice A0_1 l0_1.length c0_1, .slice A0_2 l0_2.length c0_2, .int .i64 a0_3, .slice A0_4 l0_4.length c0_4, .slice A0_5 l0_5.length c0_5, .slice A0_6 l0_6.length c0_6, .bool a0_7]] w fun e w' => e = .returned (.int .i64 r) ∧ Below w.heap.size w w' := by
 have hu60 := Tryd.underlying60
 have HR0_1 := Aside0.mk hr0_1
 have HC0_1 := Aside0.mk hc0_1
 clear hr0_1 hc0_1
 have HR0_2 := Aside0.mk hr0_2
 have HC0_2 := Aside0.mk hc0_2
 clear hr0_2 hc0_2
 have HR0_4 := Aside0.mk hr0_4
 have HC0_4 := Aside0.mk hc0_4
 clear hr0_4 hc0_4
 have HR0_5 := Aside0.mk hr0_5
 have HC0_5 := Aside0.mk hc0_5
 clear hr0_5 hc0_5
 have HR0_6 := Aside0.mk hr0_6
 have HC0_6 := Aside0.mk hc0_6
 clear hr0_6 hc0_6
 have HB := Aside0.mk (Below.refl w.heap.size w)
 have H : (if (l0_1.length : Int) = 0 then (some 0) else (if 0 < (l0_1.length : Int) then (some ((rd_L1 l0_1 0).length : Int)) else (none))) = some r := h
 clear h
 by_cases c2 : (l0_1.length : Int) = 0
 ·rw [if_pos c2] at H
  have c2b0 : ((l0_1.length : Int) == 0) = true := beq_iff_eq.mpr c2
  have c2b1 : ((l0_1.length : Int) != 0) = false := bne_eq_false_iff_eq.mpr c2
  clear c2
  obtain rfl := Option.some.inj H
  go_enter Tryd.func92, Tryd.ntmps92
  go_wp2_with (first | ((with_reducible refine gate_dst (N := 1) rfl ?_); refine box_event ?hg (N := 1) ?hd (cs := #[.int .i64 a0_0, .slice A0_1 l0_1.length c0_1, .slice A0_2 l0_2.length c0_2, .int .i64 a0_3, .slice A0_4 l0_4.length c0_4, .slice A0_5 l0_5.length c0_5, .slice A0_6 l0_6.length c0_6, .bool a0_7]) (t := 60) ?hr ?_; (case hd => rfl); (case hg => rfl); (case hr => first | (go_simp; done) | (go_simp; rfl)); intro gb536 hg w3 hbox hb; have n0_ := Aside0.mk (below_step (by repeat (first | (with_reducible first | exact HB.out | apply below_alloc | apply pw_below_drewN | apply below_drew1) | exact HB.out)) hb); have n1_ := Aside0.mk (hbox); have n2_ := Aside0.mk ((by rw [hg]; exact (below_size (by repeat (first | (with_reducible first | exact HB.out | apply below_alloc | apply pw_below_drewN | apply below_drew1) | exact HB.out))) : w.heap.size ≤ gb536)); have n3_ := Aside0.mk ((by rw [hg]; exact (below_size (by repeat (first | (with_reducible first | exact HB.out | apply below_alloc | apply pw_below_drewN | apply below_drew1) | exact HB.out))) : w.heap.size ≤ gb536)); clear HB; have HB := n0_; have BK536 := n1_; have GW536 := n2_; have GE536 := n3_; clear n0_ n1_ n2_ n3_; clear hb hbox hg; have hcz4_0 : w3.cell? ⟨gb536, 0, none⟩ = some (.int .i64 a0_0) := (blk_cell BK536.out 0).trans rfl; have hcz4_1 : w3.cell? ⟨gb536, 1, none⟩ = some (.slice A0_1 l0_1.length c0_1) := (blk_cell BK536.out 1).trans rfl; have hcz4_2 : w3.cell? ⟨gb536, 2, none⟩ = some (.slice A0_2 l0_2.length c0_2) := (blk_cell BK536.out 2).trans rfl; have hcz4_3 : w3.cell? ⟨gb536, 3, none⟩ = some (.int .i64 a0_3) := (blk_cell BK536.out 3).trans rfl; have hcz4_4 : w3.cell? ⟨gb536, 4, none⟩ = some (.slice A0_4 l0_4.length c0_4) := (blk_cell BK536.out 4).trans rfl; have hcz4_5 : w3.cell? ⟨gb536, 5, none⟩ = some (.slice A0_5 l0_5.length c0_5) := (blk_cell BK536.out 5).trans rfl; have hcz4_6 : w3.cell? ⟨gb536, 6, none⟩ = some (.slice A0_6 l0_6.length c0_6) := (blk_cell BK536.out 6).trans rfl; have hcz4_7 : w3.cell? ⟨gb536, 7, none⟩ = some (.bool a0_7) := (blk_cell BK536.out 7).trans rfl; have hfz4_0 := blk_frozen BK536.out 0; have hfz4_1 := blk_frozen BK536.out 1; have hfz4_2 := blk_frozen BK536.out 2; have hfz4_3 := blk_frozen BK536.out 3; have hfz4_4 := blk_frozen BK536.out 4; have hfz4_5 := blk_frozen BK536.out 5; have hfz4_6 := blk_frozen BK536.out 6; have hfz4_7 := blk_frozen BK536.out 7))
  go_ret
  exact ⟨by first | rfl | (simp [errW_none, errW_some] <;> rfl) | (simp [*, errW_none, errW_some] <;> rfl), by repeat (first | (with_reducible first | exact HB.out | apply below_alloc | apply pw_below_drewN | apply below_drew1 | refine below_set ?_ GE536.out) | exact HB.out)⟩
 ·rw [if_neg c2] at H
  have c2b0 : ((l0_1.length : Int) == 0) = false := beq_eq_false_iff_ne.mpr c2
  have c2b1 : ((l0_1.length : Int) != 0) = true := bne_iff_ne.mpr c2
  have c2b2 : ¬ (l0_1 = []) := fun h_ => c2 (by rw [h_]; rfl)
  by_cases c5 : 0 < (l0_1.length : Int)
  ·rw [if_pos c5] at H
   have c5b0 : decide (0 < (l0_1.length : Int)) = true := decide_eq_true c5
   have c5b1 : decide (0 < l0_1.length) = true := decide_eq_true (by omega)
   clear c5
   obtain rfl := Option.some.inj H
   go_enter Tryd.func92, Tryd.ntmps92
   go_wp2_with (first | ((with_reducible refine gate_dst (N := 1) rfl ?_); refine box_event ?hg (N := 1) ?hd (cs := #[.int .i64 a0_0, .slice A0_1 l0_1.length c0_1, .slice A0_2 l0_2.length c0_2, .int .i64 a0_3, .slice A0_4 l0_4.length c0_4, .slice A0_5 l0_5.length c0_5, .slice A0_6 l0_6.length c0_6, .bool a0_7]) (t := 60) ?hr ?_; (case hd => rfl); (case hg => rfl); (case hr => first | (go_simp; done) | (go_simp; rfl)); intro gb536 hg w6 hbox hb; have n0_ := Aside0.mk (below_step (by repeat (first | (with_reducible first | exact HB.out | apply below_alloc | apply pw_below_drewN | apply below_drew1) | exact HB.out)) hb); have n1_ := Aside0.mk (hbox); have n2_ := Aside0.mk ((by rw [hg]; exact (below_size (by repeat (first | (with_reducible first | exact HB.out | apply below_alloc | apply pw_below_drewN | apply below_drew1) | exact HB.out))) : w.heap.size ≤ gb536)); have n3_ := Aside0.mk ((by rw [hg]; exact (below_size (by repeat (first | (with_reducible first | exact HB.out | apply below_alloc | apply pw_below_drewN | apply below_drew1) | exact HB.out))) : w.heap.size ≤ gb536)); clear HB; have HB := n0_; have BK536 := n1_; have GW536 := n2_; have GE536 := n3_; clear n0_ n1_ n2_ n3_; clear hb hbox hg; have hcz7_0 : w6.cell? ⟨gb536, 0, none⟩ = some (.int .i64 a0_0) := (blk_cell BK536.out 0).trans rfl; have hcz7_1 : w6.cell? ⟨gb536, 1, none⟩ = some (.slice A0_1 l0_1.length c0_1) := (blk_cell BK536.out 1).trans rfl; have hcz7_2 : w6.cell? ⟨gb536, 2, none⟩ = some (.slice A0_2 l0_2.length c0_2) := (blk_cell BK536.out 2).trans rfl; have hcz7_3 : w6.cell? ⟨gb536, 3, none⟩ = some (.int .i64 a0_3) := (blk_cell BK536.out 3).trans rfl; have hcz7_4 : w6.cell? ⟨gb536, 4, none⟩ = some (.slice A0_4 l0_4.length c0_4) := (blk_cell BK536.out 4).trans rfl; have hcz7_5 : w6.cell? ⟨gb536, 5, none⟩ = some (.slice A0_5 l0_5.length c0_5) := (blk_cell BK536.out 5).trans rfl; have hcz7_6 : w6.cell? ⟨gb536, 6, none⟩ = some (.slice A0_6 l0_6.length c0_6) := (blk_cell BK536.out 6).trans rfl; have hcz7_7 : w6.cell? ⟨gb536, 7, none⟩ = some (.bool a0_7) := (blk_cell BK536.out 7).trans rfl; have hfz7_0 := blk_frozen BK536.out 0; have hfz7_1 := blk_frozen BK536.out 1; have hfz7_2 := blk_frozen BK536.out 2; have hfz7_3 := blk_frozen BK536.out 3; have hfz7_4 := blk_frozen BK536.out 4; have hfz7_5 := blk_frozen BK536.out 5; have hfz7_6 := blk_frozen BK536.out 6; have hfz7_7 := blk_frozen BK536.out 7; have p537 : 0 ≤ (0 : Int) := (by omega); have q537 : 0 < (l0_1.length : Int) := of_decide_eq_true (by first | (with_reducible assumption) | assumption); obtain ⟨ad537, A537_0, c537_0, e537, hx537_0, hl537_0, hi537_0⟩ := at_L1 HR0_1.out 0 p537 q537; cases e537; have qi537 : (0 < l0_1.length) = True := eq_true (by omega); (try rw [show ((0 : Int)).toNat = 0 from rfl] at hx537_0); (try rw [Addr.add_zero'] at hx537_0); replace hx537_0 := (HB.out.cell (World.block_lt_of_cell? w _ hx537_0)).trans hx537_0; have HR537_0 := Aside0.mk hi537_0; have HC537_0 := Aside0.mk hl537_0; clear hi537_0 hl537_0; replace p537 := eq_true p537; replace q537 := eq_true q537))
   go_ret
   exact ⟨by first | rfl | (simp [errW_none, errW_some] <;> rfl) | (simp [*, errW_none, errW_some] <;> rfl), by repeat (first | (with_reducible first | exact HB.out | apply below_alloc | apply pw_below_drewN | apply below_drew1 | refine below_set ?_ GE536.out) | exact HB.out)⟩
  ·rw [if_neg c5] at H
   exact absurd H (by simp)
end Go.Proofs.YtfonajakaimnoaaDoor.Lib

namespace Go.Proofs.YtfonajakaimnoaaDoor.C14
open Go.RowKit Go.Proofs.YtfonajakaimnoaaDoorW.PrintWords Go.Proofs.YtfonajakaimnoaaDoorW.PrintLast Go.Proofs.YtfonajakaimnoaaDoorW.PrintMore Go.Proofs.YtfonajakaimnoaaDoor.Lib Lent Go.Proofs.YtfonajakaimnoaaDoor.Fn Go.Proofs.YtfonajakaimnoaaDoor.C11
set_option linter.unusedVariables false
set_option linter.unusedSimpArgs false
def wfB (n : Int) (word : List Int) : Bool := word.all (fun x => !(decide (x < 0)) && !(decide (x ≥ n)))
def decAt (s0 : Int) (N0 O0 : LL) (s1 : Int) (N1 O1 : LL) (word : List Int) (i : Nat) : Int :=
 leastL (rd_L1 O0 (rd (runL N0 s0 word) (i : Int))) (rd_L1 O1 (rd (runL N1 s1 word.reverse) ((word.length - i : Nat) : Int)))
def decL (s0 : Int) (N0 O0 : LL) (s1 : Int) (N1 O1 : LL) (word : List Int) : Nat → List Int
 | 0 => []
 | j + 1 => decL s0 N0 O0 s1 N1 O1 word j ++ [decAt s0 N0 O0 s1 N1 O1 word (j + 1)]
theorem decL_len (s0 : Int) (N0 O0 : LL) (s1 : Int) (N1 O1 : LL) (word : List Int) (j : Nat) : (decL s0 N0 O0 s1 N1 O1 word j).length = j := by
 induction j with
 | zero => rfl
 | succ j ih => simp [decL, ih]
def decOk (s0 : Int) (N0 O0 : LL) (s1 : Int) (N1 O1 : LL) (B : List Bool) (word : List Int) : Bool := pokB s0 N0 O0 s1 N1 O1 B (symN N0) && wfB (symN N0) word
def decR (s0 : Int) (N0 O0 : LL) (s1 : Int) (N1 O1 : LL) (B : List Bool) (word : List Int) : List Int × Int :=
 if decOk s0 N0 O0 s1 N1 O1 B word then (decL s0 N0 O0 s1 N1 O1 word (word.length - 1), 0) else ([], 1)
def saysB (B : List Bool) (els : Bool) (d : Int) : Bool := if d ≥ 0 then rdOf false B d else els
def brks (B : List Bool) (els : Bool) : Nat → List Int → List Int
 | _, [] => []
 | i, d :: r => if saysB B els d then ((i + 1 : Nat) : Int) :: brks B els (i + 1) r else brks B els (i + 1) r
def brkR (s0 : Int) (N0 O0 : LL) (s1 : Int) (N1 O1 : LL) (B : List Bool) (els : Bool) (word : List Int) : List Int × Int :=
 if decOk s0 N0 O0 s1 N1 O1 B word then (if word.length = 0 then ([], 0) else (([0] ++ brks B els 0 (decL s0 N0 O0 s1 N1 O1 word (word.length - 1))) ++ [(word.length : Int)], 0)) else ([], 1)
structure Pg (s0 : Int) (N0 O0 : LL) (s1 : Int) (N1 O1 : LL) (B : List Bool) (word : List Int) (n : Nat) : Prop where
 g0 : Gd N0 n
 a0 : 0 ≤ s0 ∧ s0 < N0.length
 o0 : O0.length = N0.length
 r0 : ∀ i, (h : i < O0.length) → risesB B.length (-1) O0[i] = true
 g1 : Gd N1 n
 a1 : 0 ≤ s1 ∧ s1 < N1.length
 o1 : O1.length = N1.length
 r1 : ∀ i, (h : i < O1.length) → risesB B.length (-1) O1[i] = true
 hw : ∀ c ∈ word, 0 ≤ c ∧ c < (n : Int)
theorem pg_of {s0 : Int} {N0 O0 : LL} {s1 : Int} {N1 O1 : LL} {B : List Bool} {word : List Int} {n : Int} (h : pokB s0 N0 O0 s1 N1 O1 B n = true) (hw : ∀ c ∈ word, 0 ≤ c ∧ c < n) : ∃ m : Nat, n = m ∧ Pg s0 N0 O0 s1 N1 O1 B word m := by
 unfold pokB at h
 rw [Bool.and_eq_true] at h
 obtain ⟨n0, e0, g0, a0, b0, o0, _, r0⟩ := gd_of h.1
 obtain ⟨n1, e1, g1, a1, b1, o1, _, r1⟩ := gd_of h.2
 obtain rfl : n1 = n0 := by omega
 subst e0
 exact ⟨n1, rfl, g0, ⟨a0, b0⟩, o0, r0, g1, ⟨a1, b1⟩, o1, r1, hw⟩
section
variable {s0 : Int} {N0 O0 : LL} {s1 : Int} {N1 O1 : LL} {B : List Bool} {els : Bool} {word : List Int} {n : Nat}
theorem Pg.rev (h : Pg s0 N0 O0 s1 N1 O1 B word n) : ∀ c ∈ word.reverse, 0 ≤ c ∧ c < (n : Int) := fun c hc => h.hw c (List.mem_reverse.mp hc)
theorem Pg.at0 (h : Pg s0 N0 O0 s1 N1 O1 B word n) {i : Nat} (hi : i ≤ word.length) : 0 ≤ rd (runL N0 s0 word) (i : Int) ∧ rd (runL N0 s0 word) (i : Int) < O0.length ∧ (i : Int) < ((runL N0 s0 word).length : Int) := by
 have hl := runL_len N0 word s0
 rw [rd_at _ i (by omega)]
 have := runL_in h.g0 word s0 h.a0.1 h.a0.2 h.hw _ (List.getElem_mem (show i < (runL N0 s0 word).length by omega))
 have := h.o0
 omega
theorem Pg.at1 (h : Pg s0 N0 O0 s1 N1 O1 B word n) {i : Nat} (hi : i ≤ word.length) : 0 ≤ rd (runL N1 s1 word.reverse) (i : Int) ∧ rd (runL N1 s1 word.reverse) (i : Int) < O1.length ∧ (i : Int) < ((runL N1 s1 word.reverse).length : Int) := by
 have hl := runL_len N1 word.reverse s1
 rw [List.length_reverse] at hl
 rw [rd_at _ i (by omega)]
 have := runL_in h.g1 word.reverse s1 h.a1.1 h.a1.2 h.rev _ (List.getElem_mem (show i < (runL N1 s1 word.reverse).length by omega))
 have := h.o1
 omega
theorem rises_row {O : LL} {pt : Int} (h : ∀ i, (h : i < O.length) → risesB pt (-1) O[i] = true) {a : Int} (a0 : 0 ≤ a) (a1 : a < O.length) : risesB pt (-1) (rd_L1 O a) = true := by
 obtain ⟨a, rfl⟩ : ∃ m : Nat, a = m := ⟨a.toNat, by omega⟩
 rw [row_at (by omega)]
 exact h a (by omega)
theorem row_len {O : LL} (h : ∀ x ∈ O, x.length ≤ 9223372036854775807) {a : Int} (a0 : 0 ≤ a) (a1 : a < O.length) : (rd_L1 O a).length ≤ 9223372036854775807 := by
 obtain ⟨a, rfl⟩ : ∃ m : Nat, a = m := ⟨a.toNat, by omega⟩
 rw [row_at (by omega)]
 exact h _ (List.getElem_mem _)
theorem Pg.dec_lt (h : Pg s0 N0 O0 s1 N1 O1 B word n) {i : Nat} (hi : i ≤ word.length) : decAt s0 N0 O0 s1 N1 O1 word i < B.length := by
 obtain ⟨h0, h1, _⟩ := h.at0 hi
 exact leastL_lt (by omega) _ _ (fun x hx => (rises_gt (rises_row h.r0 h0 h1) x hx).2)
theorem Pg.decL_lt (h : Pg s0 N0 O0 s1 N1 O1 B word n) : ∀ j, j ≤ word.length → ∀ d ∈ decL s0 N0 O0 s1 N1 O1 word j, d < B.length := by
 intro j
 induction j with
 | zero => intro _ d hd; cases hd
 | succ j ih =>
  intro hj d hd
  simp only [decL, List.mem_append, List.mem_singleton] at hd
  rcases hd with hd | rfl
  ·exact ih (by omega) d hd
  ·exact h.dec_lt hj
theorem doc_dec_l1 (h : Pg s0 N0 O0 s1 N1 O1 B word n) (hl : word.length ≤ 17592186044400) (hO0 : ∀ x ∈ O0, x.length ≤ 9223372036854775807) (hO1 : ∀ x ∈ O1, x.length ≤ 9223372036854775807) :
  ∀ (d j : Nat), j ≤ word.length - 1 → word.length - 1 - j = d →
   Ev (fun k => caesuraref14_Decide.l1 k word (runL N0 s0 word) (runL N1 s1 word.reverse) (decL s0 N0 O0 s1 N1 O1 word j) ((j + 1 : Nat) : Int) s0 N0 O0 s1 N1 O1 B els) (decL s0 N0 O0 s1 N1 O1 word (word.length - 1), 0) := by
 intro d
 induction d with
 | zero =>
  intro j hj hd
  obtain rfl : j = word.length - 1 := by omega
  refine Ev.step (f := fun _ => some (decL s0 N0 O0 s1 N1 O1 word (word.length - 1), 0)) (fun k => ?_) (Ev.now _)
  conv => lhs; unfold caesuraref14_Decide.l1
  rw [if_neg (by omega)]
 | succ d ih =>
  intro j hj hd
  have hnext := ih (j + 1) (by omega) (by omega)
  have hw : wrap64 (((j + 1 : Nat) : Int) + 1) = ((j + 1 + 1 : Nat) : Int) := wsucc (show j + 1 < word.length by omega) (by omega)
  rw [← hw] at hnext
  clear hw
  obtain ⟨p0, p1, p2⟩ := h.at0 (show j + 1 ≤ word.length by omega)
  obtain ⟨q0, q1, q2⟩ := h.at1 (show word.length - (j + 1) ≤ word.length by omega)
  have hs : wrap64 ((word.length : Int) - ((j + 1 : Nat) : Int)) = ((word.length - (j + 1) : Nat) : Int) := by unfold wrap64; omega
  have hlen := decL_len s0 N0 O0 s1 N1 O1 word j
  refine Ev.step (f := fun k => (caesuraref14_Least.f k (rd_L1 O0 (rd (runL N0 s0 word) ((j + 1 : Nat) : Int))) (rd_L1 O1 (rd (runL N1 s1 word.reverse) ((word.length - (j + 1) : Nat) : Int)))).bind fun t => caesuraref14_Decide.l1 k word (runL N0 s0 word) (runL N1 s1 word.reverse) (decL s0 N0 O0 s1 N1 O1 word j ++ [t]) (wrap64 (((j + 1 : Nat) : Int) + 1)) s0 N0 O0 s1 N1 O1 B els) (fun k => ?_)
   (Ev.bind (least_ev _ _ (row_len hO0 p0 p1) (row_len hO1 q0 q1)) hnext)
  conv => lhs; unfold caesuraref14_Decide.l1
  rw [hs]
  clear hs
  rw [if_pos (by omega), if_pos (by omega), if_pos p2, if_pos p0, if_pos p1, if_pos (by omega), if_pos q2, if_pos q0, if_pos q1]
  congr 1
  funext t
  rw [if_pos (by omega)]
theorem sym_ev : caesuraref14_Symbols.f s0 N0 O0 s1 N1 O1 B els = some (symN N0) := by
 unfold caesuraref14_Symbols.f symN
 by_cases h : N0.length = 0
 ·rw [if_pos (by omega), if_pos h]
 ·rw [if_neg (by omega), if_pos (by omega), if_neg h]
theorem psym_ev : pair_symbols.f s0 N0 O0 s1 N1 O1 B els = some (symN N0) := by
 unfold pair_symbols.f symN
 by_cases h : N0.length = 0
 ·rw [if_pos (by omega), if_pos h]
 ·rw [if_neg (by omega), if_pos (by omega), if_neg h]
theorem doc_dec_l0 (hp : pokB s0 N0 O0 s1 N1 O1 B (symN N0) = true) (hl : word.length ≤ 17592186044400) (hO0 : ∀ x ∈ O0, x.length ≤ 9223372036854775807) (hO1 : ∀ x ∈ O1, x.length ≤ 9223372036854775807) :
  ∀ (d i : Nat), i ≤ word.length → word.length - i = d → (∀ c ∈ word.take i, 0 ≤ c ∧ c < symN N0) →
   Ev (fun k => caesuraref14_Decide.l0 k word (symN N0) i s0 N0 O0 s1 N1 O1 B els) (if wfB (symN N0) (word.drop i) then (decL s0 N0 O0 s1 N1 O1 word (word.length - 1), 0) else ([], 1)) := by
 intro d
 induction d with
 | zero =>
  intro i hi hd hw
  obtain rfl : i = word.length := by omega
  rw [List.take_length] at hw
  obtain ⟨m, e, h⟩ := pg_of hp hw
  rw [List.drop_length]
  refine Ev.step (f := fun k => (caesuraref12_Run.f k s0 N0 O0 word).bind fun bt597 => ((caesuraref14_turned.f k word).bind fun t601 => ((caesuraref12_Run.f k s1 N1 O1 t601).bind fun bt604 => (caesuraref14_Decide.l1 k word bt597.1 bt604.1 ([] : List Int) 1 s0 N0 O0 s1 N1 O1 B els)))) (fun k => ?_)
   (Ev.bind (d_run_ev h.g0 h.a0.1 h.a0.2 h.hw hl) (Ev.bind (turned_ev word hl) (Ev.bind (d_run_ev h.g1 h.a1.1 h.a1.2 h.rev (by rw [List.length_reverse]; exact hl)) (doc_dec_l1 h hl hO0 hO1 (word.length - 1) 0 (by omega) (by omega)))))
  conv => lhs; unfold caesuraref14_Decide.l0
  rw [if_neg (by omega)]
 | succ d ih =>
  intro i hi hd hw
  have hil : i < word.length := by omega
  have hq : wfB (symN N0) (word.drop i) = ((!(decide (word[i] < 0)) && !(decide (word[i] ≥ symN N0))) && wfB (symN N0) (word.drop (i + 1))) := by unfold wfB; rw [List.drop_eq_getElem_cons hil, List.all_cons]
  by_cases h1 : word[i] < 0
  ·rw [show wfB (symN N0) (word.drop i) = false by rw [hq, decide_eq_true h1]; rfl]
   refine Ev.step (f := fun _ => some ([], 1)) (fun k => ?_) (Ev.now _)
   conv => lhs; unfold caesuraref14_Decide.l0
   rw [if_pos (by omega), if_pos (by omega), rd_at word i hil, if_pos h1]
  ·by_cases h2 : word[i] ≥ symN N0
   ·rw [show wfB (symN N0) (word.drop i) = false by rw [hq, decide_eq_true h2, decide_eq_false h1]; rfl]
    refine Ev.step (f := fun _ => some ([], 1)) (fun k => ?_) (Ev.now _)
    conv => lhs; unfold caesuraref14_Decide.l0
    rw [if_pos (by omega), if_pos (by omega), rd_at word i hil, if_neg h1, if_pos h2]
   ·have hnext := ih (i + 1) (by omega) (by omega) (fun c hc => by
     rw [List.take_add_one, List.getElem?_eq_getElem hil] at hc
     rcases List.mem_append.mp hc with hc | hc
     ·exact hw c hc
     ·simp at hc
      subst hc
      exact ⟨by omega, by omega⟩)
    have hw := wsucc hil (by omega)
    rw [← hw] at hnext
    clear hw
    rw [show wfB (symN N0) (word.drop i) = wfB (symN N0) (word.drop (i + 1)) by rw [hq, decide_eq_false h2, decide_eq_false h1]; rfl]
    refine Ev.step (fun k => ?_) hnext
    conv => lhs; unfold caesuraref14_Decide.l0
    rw [if_pos (by omega), if_pos (by omega), rd_at word i hil, if_neg h1, if_neg h2]
theorem doc_dec_ev (hl : word.length ≤ 17592186044400) (hN0 : ∀ x ∈ N0, x.length ≤ 9223372036854775807) (hO0 : ∀ x ∈ O0, x.length ≤ 9223372036854775807) (hN1 : ∀ x ∈ N1, x.length ≤ 9223372036854775807) (hO1 : ∀ x ∈ O1, x.length ≤ 9223372036854775807) :
  Ev (fun k => caesuraref14_Decide.f k s0 N0 O0 s1 N1 O1 B els word) (decR s0 N0 O0 s1 N1 O1 B word) := by
 unfold caesuraref14_Decide.f
 simp only [sym_ev, Option.bind_some]
 refine Ev.bind (dp_check_ev hN0 hO0 hN1 hO1) ?_
 unfold decR decOk
 cases hp : pokB s0 N0 O0 s1 N1 O1 B (symN N0) with
 | false => exact Ev.congr (fun k => if_neg (by decide)) (Ev.now _)
 | true =>
  have h0 := doc_dec_l0 (els := els) hp hl hO0 hO1 word.length 0 (by omega) (by omega) (fun c hc => by simp at hc)
  rw [List.drop_zero] at h0
  exact Ev.congr (fun k => if_pos rfl) h0
theorem says_ev {d : Int} (h : d < B.length) : caesuraref14_Says.f s0 N0 O0 s1 N1 O1 B els d = some (saysB B els d) := by
 unfold caesuraref14_Says.f saysB
 by_cases h0 : d ≥ 0
 ·rw [if_pos h0, if_pos h0, if_pos h0, if_pos h]
  cases rdOf false B d with
  | true => rfl
  | false => rw [if_neg (by decide), if_neg (by omega)]
 ·rw [if_neg h0, if_neg h0, if_pos (by omega)]
theorem doc_brk_l0 (l : List Int) (hl : word.length ≤ 17592186044400) (hlen : l.length ≤ word.length) (hd : ∀ d ∈ l, d < B.length) :
  ∀ (e i : Nat) (out : List Int), i ≤ l.length → l.length - i = e → out.length ≤ i + 1 → Ev (fun k => caesuraref14_Breaks.l0 k word l out i s0 N0 O0 s1 N1 O1 B els) ((out ++ brks B els i (l.drop i)) ++ [(word.length : Int)], 0) := by
 intro e
 induction e with
 | zero =>
  intro i out hi he ho
  rw [List.drop_of_length_le (by omega)]
  refine Ev.step (f := fun _ => some (out ++ [(word.length : Int)], 0)) (fun k => ?_) (by rw [show brks B els i [] = [] from rfl, List.append_nil]; exact Ev.now _)
  conv => lhs; unfold caesuraref14_Breaks.l0
  rw [if_neg (by omega), if_pos (by omega)]
 | succ e ih =>
  intro i out hi he ho
  have hil : i < l.length := by omega
  have hw := wsucc hil (by omega)
  have hs := says_ev (s0 := s0) (N0 := N0) (O0 := O0) (s1 := s1) (N1 := N1) (O1 := O1) (els := els) (hd _ (List.getElem_mem hil))
  cases hq : saysB B els l[i] with
  | true =>
   have hnext := ih (i + 1) (out ++ [((i + 1 : Nat) : Int)]) (by omega) (by omega) (by simp; omega)
   rw [show out ++ brks B els i (l.drop i) = out ++ [((i + 1 : Nat) : Int)] ++ brks B els (i + 1) (l.drop (i + 1)) by rw [List.drop_eq_getElem_cons hil]; simp [brks, hq]]
   refine Ev.step (fun k => ?_) hnext
   conv => lhs; unfold caesuraref14_Breaks.l0
   rw [hw]
   clear hw
   rw [if_pos (by omega), if_pos (by omega), rd_at l i hil, hs, Option.bind_some, hq, if_pos rfl, if_pos (by omega)]
  | false =>
   have hnext := ih (i + 1) out (by omega) (by omega) (by omega)
   rw [show out ++ brks B els i (l.drop i) = out ++ brks B els (i + 1) (l.drop (i + 1)) by rw [List.drop_eq_getElem_cons hil]; simp [brks, hq]]
   refine Ev.step (fun k => ?_) hnext
   conv => lhs; unfold caesuraref14_Breaks.l0
   rw [hw]
   clear hw
   rw [if_pos (by omega), if_pos (by omega), rd_at l i hil, hs, Option.bind_some, hq, if_neg (by decide)]
theorem doc_brk_ev (hl : word.length ≤ 17592186044400) (hN0 : ∀ x ∈ N0, x.length ≤ 9223372036854775807) (hO0 : ∀ x ∈ O0, x.length ≤ 9223372036854775807) (hN1 : ∀ x ∈ N1, x.length ≤ 9223372036854775807) (hO1 : ∀ x ∈ O1, x.length ≤ 9223372036854775807) :
  Ev (fun k => caesuraref14_Breaks.f k s0 N0 O0 s1 N1 O1 B els word) (brkR s0 N0 O0 s1 N1 O1 B els word) := by
 unfold caesuraref14_Breaks.f
 refine Ev.bind (doc_dec_ev hl hN0 hO0 hN1 hO1) ?_
 unfold brkR decR
 cases ho : decOk s0 N0 O0 s1 N1 O1 B word with
 | false => exact Ev.congr (fun k => if_neg (by simp)) (Ev.now _)
 | true =>
  refine Ev.congr (fun k => if_pos rfl) ?_
  by_cases h0 : word.length = 0
  ·rw [if_pos rfl, if_pos h0]
   exact Ev.congr (fun k => if_pos (by omega)) (Ev.now _)
  ·rw [if_pos rfl, if_neg h0]
   refine Ev.congr (fun k => if_neg (by omega)) ?_
   unfold decOk at ho
   rw [Bool.and_eq_true] at ho
   obtain ⟨m, e, h⟩ := pg_of (word := word) ho.1 (fun c hc => by
    have := ho.2
    unfold wfB at this
    rw [List.all_eq_true] at this
    have := this c hc
    simp at this
    omega)
   have hlen := decL_len s0 N0 O0 s1 N1 O1 word (word.length - 1)
   have := doc_brk_l0 (s0 := s0) (N0 := N0) (O0 := O0) (s1 := s1) (N1 := N1) (O1 := O1) (els := els) (word := word) (decL s0 N0 O0 s1 N1 O1 word (word.length - 1)) hl (by omega) (h.decL_lt _ (by omega)) _ 0 [0] (by omega) rfl (by simp)
   rw [List.drop_zero] at this
   exact this
end
end Go.Proofs.YtfonajakaimnoaaDoor.C14

namespace Go.Proofs.YtfonajakaimnoaaDoor.C14
open Go.RowKit Go.Proofs.YtfonajakaimnoaaDoorW.PrintWords Go.Proofs.YtfonajakaimnoaaDoorW.PrintLast Go.Proofs.YtfonajakaimnoaaDoorW.PrintMore Go.Proofs.YtfonajakaimnoaaDoor.Lib Lent Go.Proofs.YtfonajakaimnoaaDoor.Fn Go.Shelf
attribute [local go_sem] max2_int min2_int max_two min_two max_three min_three max_four min_four
set_option linter.unusedVariables false
set_option linter.unusedSimpArgs false
def wrongI (n x : Int) : Bool := decide (x < 0) || decide (x ≥ n)
theorem wrongI_calls (n : Int) (B : Nat) (x : Int) (w : World) (hc : w.cell? ⟨B, 0, none⟩ = some (.int .i64 n)) :
  Calls Tryd.prog 93 (#[.int .i64 x] ++ #[.pointer (some ⟨B, 0, none⟩)]) w fun e w' => e = .returned (.bool (wrongI n x)) ∧ Below w.heap.size w w' := by
 by_cases h : x < 0
 ·have h1 : decide (x < 0) = true := by simpa using h
  go_enter Tryd.func93, Tryd.ntmps93
  go_wp2
  repeat (go_quiet (fail); try go_wp2)
  go_ret
  exact ⟨by simp [wrongI, h], by repeat (first | exact Below.refl _ _ | apply pw_below_drewN | apply below_drew1)⟩
 ·have h1 : decide (x < 0) = false := by simpa using h
  go_enter Tryd.func93, Tryd.ntmps93
  go_wp2
  repeat (go_quiet (fail); try go_wp2)
  go_ret
  exact ⟨by simp [wrongI, show ¬ x < 0 from by omega], by repeat (first | exact Below.refl _ _ | apply pw_below_drewN | apply below_drew1)⟩
end Go.Proofs.YtfonajakaimnoaaDoor.C14

namespace Go.Proofs.YtfonajakaimnoaaDoor.Lib
open Go.RowKit Go.Proofs.YtfonajakaimnoaaDoorW.PrintWords Go.Proofs.YtfonajakaimnoaaDoorW.PrintLast Go.Proofs.YtfonajakaimnoaaDoorW.PrintMore
attribute [local go_sem] max2_int min2_int max_two min_two max_three min_three max_four min_four   -- for this text's walks alone
set_option linter.unusedVariables false
set_option linter.unusedSimpArgs false
def slices_Reverse_int_int.l0 : Nat → List Int → Int → Int → Option (List Int)
 | 0, _, _, _ => none
 | k + 1, x0, x2, x3 => if x2 < x3 then (if 0 ≤ x3 then (if x3 < (x0.length : Int) then (if 0 ≤ x2 then (if x2 < (x0.length : Int) then (slices_Reverse_int_int.l0 k ((x0.set (x2 : Int).toNat (rd x0 x3)).set (x3 : Int).toNat (rd x0 x2)) (wrap64 (x2 + 1)) (wrap64 (x3 - 1))) else (none)) else (none)) else (none)) else (none)) else (some x0)
def slices_Reverse_int_int.f (k : Nat) (l0 : List Int) : Option (List Int) := slices_Reverse_int_int.l0 k l0 0 (wrap64 ((l0.length : Int) - 1))
def slices_Reverse_int_int.T3 : Bool × List (List Nat × List Nat) := (true, [([], []), ([], []), ([], []), ([], []), ([], []), ([], []), ([4, 5], [4, 5]), ([6], [6]), ([], []), ([], []), ([8, 9], [8, 9]), ([10], [10]), ([0, 1, 0, 1, 4, 5, 6, 7, 11], [0, 1]), ([12, 7, 0, 1, 4, 5, 6, 7, 11], [7, 12]), ([2, 3, 0, 1, 2, 3, 4, 5, 6, 7, 8, 9, 10, 11, 12, 13], [2, 3]), ([14, 11, 13, 0, 1, 2, 3, 4, 5, 6, 7, 8, 9, 10, 11, 12, 13], [11, 14])])
def slices_Reverse_int_int.B3 : List Nat := [0, 0, 0, 0, 0, 0, 48, 112, 0, 0, 768, 1792, 4083, 8179, 16383, 32767]
theorem slices_Reverse_int_int.tab3 : rtab .any (opsOf Tryd.f95 3) = slices_Reverse_int_int.T3 := by kernel_rfl
theorem slices_Reverse_int_int.bits3 : waitsOk slices_Reverse_int_int.T3.2 slices_Reverse_int_int.B3 = true := by kernel_rfl
set_option maxHeartbeats 8000000 in
set_option maxRecDepth 100000 in
theorem slices_Reverse_int_int.calls (k : Nat) (P0_ : Nat → Prop) (u9000_ : Value) (l0 : List Int) (r : List Int) (w0 w : World) (hB : Below w0.heap.size w0 w) (ho0 : Kd.R (Kd.int .i64) 3 w w0.heap.size P0_ u9000_ l0) (h : slices_Reverse_int_int.f k l0 = some r) :
  Calls Tryd.prog 95 #[u9000_] w fun e w' => e = .returned (.tuple #[]) ∧ Kd.R (Kd.int .i64) 3 w' w0.heap.size (fun k_ => (P0_ k_ ∨ w.heap.size ≤ k_)) u9000_ r ∧ Below w0.heap.size w0 w' ∧ Kept w w' (fun k_ => P0_ k_) := by
 have HO0 := Aside0.mk (show Kd.R (Kd.int .i64) 3 w w0.heap.size (fun k_ => (P0_ k_ ∨ w.heap.size ≤ k_)) u9000_ l0 from Kd.R_mono ho0 (fun k_ hk => (.inl hk)))
 have HK := Aside0.mk (Kept.refl w (fun k_ => P0_ k_))
 have HW0 := Aside0.mk hB.size
 have HB := Aside0.mk hB
 clear hB
 have H : (slices_Reverse_int_int.l0 k l0 0 (wrap64 ((l0.length : Int) - 1))) = some r := h
 clear h
 have H' := Aside0.mk H
 clear H
 obtain ⟨Ao2, co2, eo2⟩ := Kd.R_slice HO0.out
 subst eo2
 go_enter Tryd.func95, Tryd.ntmps95
 go_wp2
 go_loopg [2, 3] k (fun kq v2 v3 w' => ∃ (x0_1 : List Int) (x2_1 : Int) (x3_1 : Int), v2 = .int .i64 x2_1 ∧ v3 = .int .i64 x3_1 ∧ Aside0 (slices_Reverse_int_int.l0 kq x0_1 x2_1 x3_1 = some r) ∧ Aside0 (kq ≤ k) ∧ Aside0 (Kd.R (Kd.int .i64) 3 w' w0.heap.size (fun k_ => (P0_ k_ ∨ w.heap.size ≤ k_)) (.slice Ao2 l0.length co2) x0_1) ∧ Aside0 (Kept w w' (fun k_ => P0_ k_)) ∧ Aside0 (Below w0.heap.size w0 w'))
 case atStart => exact ⟨(l0), (0), (wrap64 ((l0.length : Int) - 1)), (by first | rfl | (simp; done) | (simp [*]; done)), (by first | rfl | (simp; done) | (simp [*]; done)), H', ⟨Nat.le_refl _⟩, ⟨by (with_reducible repeat (first | apply Kd.R_alloc | apply Kd.R_drewN | apply Kd.R_drew)); exact HO0.out⟩, ⟨by repeat (first | (with_reducible first | exact HK.out | apply Kept.alloc | apply Kept.drewN | apply Kept.drew) | exact HK.out)⟩, ⟨by repeat (first | (with_reducible first | exact HB.out | apply below_alloc | apply pw_below_drewN | apply below_drew1) | exact HB.out)⟩⟩
 case round =>
  clear H'
  try clear p2
  obtain ⟨x0_1, x2_1, x3_1, rfl, rfl, HA, HK1, HO_0, HK, HB⟩ := hrel
  have hl0_1 := (Kd.R_reads' HO_0.out).1
  rw [hl0_1] at HO_0
  (try simp only [hl0_1])
  cases gk with
  | zero => exact absurd HA.out (by simp [slices_Reverse_int_int.l0])
  | succ k1 =>
   have H := HA.out
   clear HA
   simp only [slices_Reverse_int_int.l0] at H
   by_cases c3 : x2_1 < x3_1
   ·rw [if_pos c3] at H
    have c3b0 : decide (x2_1 < x3_1) = true := decide_eq_true c3
    clear c3
    by_cases c4 : 0 ≤ x3_1
    ·rw [if_pos c4] at H
     have c4b0 : decide (0 ≤ x3_1) = true := decide_eq_true c4
     clear c4
     by_cases c5 : x3_1 < (x0_1.length : Int)
     ·rw [if_pos c5] at H
      have c5b0 : decide (x3_1 < (x0_1.length : Int)) = true := decide_eq_true c5
      clear c5
      by_cases c6 : 0 ≤ x2_1
      ·rw [if_pos c6] at H
       have c6b0 : decide (0 ≤ x2_1) = true := decide_eq_true c6
       clear c6
       by_cases c7 : x2_1 < (x0_1.length : Int)
       ·rw [if_pos c7] at H
        have c7b0 : decide (x2_1 < (x0_1.length : Int)) = true := decide_eq_true c7
        clear c7
        obtain ⟨y139, hy139⟩ : ∃ y_ : List Int, y_ = (x0_1.set (x2_1 : Int).toNat (rd x0_1 x3_1)) := ⟨_, rfl⟩
        replace H : (slices_Reverse_int_int.l0 k1 (y139.set (x3_1 : Int).toNat (rd x0_1 x2_1)) (wrap64 (x2_1 + 1)) (wrap64 (x3_1 - 1))) = some r := by first | (rw [hy139]; with_reducible exact H) | (have H2_ := (Option.bind_some _ _).symm.trans H; rw [hy139]; with_reducible exact H2_) | (have H2_ := (Option.bind_some _ _).symm.trans H; with_reducible exact H2_) | with_reducible exact H | (rw [hy139]; exact H) | exact H
        have Ny139 := Aside0.mk hy139
        clear hy139
        obtain ⟨y140, hy140⟩ : ∃ y_ : List Int, y_ = (y139.set (x3_1 : Int).toNat (rd x0_1 x2_1)) := ⟨_, rfl⟩
        replace H : (slices_Reverse_int_int.l0 k1 y140 (wrap64 (x2_1 + 1)) (wrap64 (x3_1 - 1))) = some r := by first | (rw [hy140]; with_reducible exact H) | (have H2_ := (Option.bind_some _ _).symm.trans H; rw [hy140]; with_reducible exact H2_) | (have H2_ := (Option.bind_some _ _).symm.trans H; with_reducible exact H2_) | with_reducible exact H | (rw [hy140]; exact H) | exact H
        have Ny140 := Aside0.mk hy140
        clear hy140
        have H' := Aside0.mk H
        clear H
        try go_wp2
        have n0_ := Aside0.mk (Kd.R_drew HO_0.out)
        have n1_ := Aside0.mk (Kept.drew HK.out)
        have n2_ := Aside0.mk (below_drew1 HB.out)
        clear HO_0
        clear HK
        clear HB
        have HO_0 := n0_
        have HK := n1_
        have HB := n2_
        clear n0_ n1_ n2_
        have p137 : 0 ≤ (x3_1 : Int) := of_decide_eq_true (by first | (with_reducible assumption) | assumption)
        have q137 : x3_1 < (x0_1.length : Int) := of_decide_eq_true (by first | (with_reducible assumption) | assumption)
        obtain ⟨ad137, e137, hx137_0⟩ := Kd.at_int (Kd.R_reads' HO_0.out).2.2 x3_1 p137 q137
        cases e137
        replace p137 := eq_true p137
        replace q137 := eq_true q137
        have p138 : 0 ≤ (x2_1 : Int) := of_decide_eq_true (by first | (with_reducible assumption) | assumption)
        have q138 : x2_1 < (x0_1.length : Int) := of_decide_eq_true (by first | (with_reducible assumption) | assumption)
        obtain ⟨ad138, e138, hx138_0⟩ := Kd.at_int (Kd.R_reads' HO_0.out).2.2 x2_1 p138 q138
        obtain rfl : ad137 = ad138 := (by injection e138)
        replace p138 := eq_true p138
        replace q138 := eq_true q138
        have p8 : 0 ≤ (x2_1 : Int) := of_decide_eq_true (by first | (with_reducible assumption) | assumption)
        have q8 : (x2_1 : Int) < ((x0_1.length : Int) : Int) := of_decide_eq_true (by first | (with_reducible assumption) | assumption)
        obtain ⟨go8, co8, eo8, gb8, gl8, cl8, HG8⟩ := Kd.R_form HO_0.out (by omega)
        (first | cases eo8 | (injection eo8 with ea_ en_ ec_; (first | subst ea_ | (injection ea_ with ea_; subst ea_)); subst ec_; clear en_))
        have GB8 := Aside0.mk gb8
        have GG8 := Aside0.mk HG8
        clear gb8 gl8 HG8
        have HMgo8 := Aside0.mk (show (P0_ go8 ∨ w.heap.size ≤ go8) from (HO_0.out.1 _ rfl))
        (first | simp only [add_plain] at hx137_0 | skip)
        (first | simp only [add_plain] at hx138_0 | skip)
        obtain ⟨hx8_0, hf8_0⟩ := Kd.R_celln 0 HO_0.out (x2_1 : Int) p8 q8
        replace p8 := eq_true p8
        replace q8 := eq_true q8
        have HP11 := Kd.R_putn HO_0.out (x2_1 : Int) (rd x0_1 x3_1)
        rw [← Ny139.out] at HP11
        have HQ11 := Aside0.mk HP11
        clear HP11
        have p9 : 0 ≤ (x3_1 : Int) := of_decide_eq_true (by first | (with_reducible assumption) | assumption)
        have q9 : (x3_1 : Int) < ((x0_1.length : Int) : Int) := of_decide_eq_true (by first | (with_reducible assumption) | assumption)
        obtain ⟨hx9_0, hf9_0⟩ := Kd.R_celln 0 HQ11.out (x3_1 : Int) p9 q9
        replace p9 := eq_true p9
        replace q9 := eq_true q9
        have HP12 := Kd.R_putn HQ11.out (x3_1 : Int) (rd x0_1 x2_1)
        rw [← Ny140.out] at HP12
        have HQ12 := Aside0.mk HP12
        clear HP12
        refine start_ (n := 16) (S := fun w' => w'.cell? ⟨go8, (x3_1).toNat, none⟩ = some (.int .i64 (rd x0_1 x3_1)) ∧ w'.cell? ⟨go8, (x2_1).toNat, none⟩ = some (.int .i64 (rd x0_1 x2_1))) (ds := [13, 15]) #[false, false, false, false, false, false, false, false, false, false, false, false, false, false, false, false] (by kernel_rfl) rfl rfl ⟨hx137_0, hx138_0⟩ (fun hHeld => ?_); refine with_tabW slices_Reverse_int_int.tab3 slices_Reverse_int_int.bits3 (fun HT_ HW_ => ?_)
        generalize wr.drew = w10 at HO_0 HK HB GG8 HQ11 HQ12 hf8_0 hf9_0 hx137_0 hx138_0 hx8_0 hx9_0 hHeld ⊢
        refine pure_ (i := 0) (N := some 14) (v := ?_) (a' := ?_) #[true, false, false, false, false, false, false, false, false, false, false, false, false, false, false, false] rfl rfl (any_of HT_.out (by kernel_rfl)) (fun _ _ _ h => h) (Or.inl ⟨by rfl, ?_⟩) ?_ ?_
        rotate_left
        ·intro w'
         go_simp
         with_reducible rfl
        rotate_left
        ·simp only [Act.put, List.setIfInBounds_toArray, List.set_cons_zero, List.set_cons_succ, i64_w, i32_w]
         rfl
        refine pure_ (i := 1) (N := some 15) (v := ?_) (a' := ?_) #[true, true, false, false, false, false, false, false, false, false, false, false, false, false, false, false] rfl rfl (any_of HT_.out (by kernel_rfl)) (fun _ _ _ h => h) (Or.inl ⟨by rfl, ?_⟩) ?_ ?_
        rotate_left
        ·intro w'
         go_simp
         with_reducible rfl
        rotate_left
        ·simp only [Act.put, List.setIfInBounds_toArray, List.set_cons_zero, List.set_cons_succ, i64_w, i32_w]
         rfl
        refine pure_ (i := 2) (N := some 16) (v := ?_) (a' := ?_) #[true, true, true, false, false, false, false, false, false, false, false, false, false, false, false, false] rfl rfl (any_of HT_.out (by kernel_rfl)) (fun _ _ _ h => h) (Or.inl ⟨by rfl, ?_⟩) ?_ ?_
        rotate_left
        ·intro w'
         go_simp
         with_reducible rfl
        rotate_left
        ·simp only [Act.put, List.setIfInBounds_toArray, List.set_cons_zero, List.set_cons_succ, i64_w, i32_w]
         rfl
        refine pure_ (i := 3) (N := some 17) (v := ?_) (a' := ?_) #[true, true, true, true, false, false, false, false, false, false, false, false, false, false, false, false] rfl rfl (any_of HT_.out (by kernel_rfl)) (fun _ _ _ h => h) (Or.inl ⟨by rfl, ?_⟩) ?_ ?_
        rotate_left
        ·intro w'
         go_simp
         with_reducible rfl
        rotate_left
        ·simp only [Act.put, List.setIfInBounds_toArray, List.set_cons_zero, List.set_cons_succ, i64_w, i32_w]
         rfl
        refine pure_ (i := 4) (N := some 18) (v := ?_) (a' := ?_) #[true, true, true, true, true, false, false, false, false, false, false, false, false, false, false, false] rfl rfl (any_of HT_.out (by kernel_rfl)) (fun _ _ _ h => h) (Or.inl ⟨by rfl, ?_⟩) ?_ ?_
        rotate_left
        ·intro w'
         go_simp
         with_reducible rfl
        rotate_left
        ·simp only [Act.put, List.setIfInBounds_toArray, List.set_cons_zero, List.set_cons_succ, i64_w, i32_w]
         rfl
        refine pure_ (i := 5) (N := some 19) (v := ?_) (a' := ?_) #[true, true, true, true, true, true, false, false, false, false, false, false, false, false, false, false] rfl rfl (any_of HT_.out (by kernel_rfl)) (fun _ _ _ h => h) (Or.inl ⟨by rfl, ?_⟩) ?_ ?_
        rotate_left
        ·intro w'
         go_simp
         with_reducible rfl
        rotate_left
        ·simp only [Act.put, List.setIfInBounds_toArray, List.set_cons_zero, List.set_cons_succ, i64_w, i32_w]
         rfl
        refine pure_ (i := 6) (N := some 20) (v := ?_) (a' := ?_) #[true, true, true, true, true, true, true, false, false, false, false, false, false, false, false, false] rfl rfl (any_of HT_.out (by kernel_rfl)) (fun _ _ _ h => h) (Or.inl ⟨by rfl, ?_⟩) ?_ ?_
        rotate_left
        ·intro w'
         go_simp
         with_reducible rfl
        rotate_left
        ·simp only [Act.put, List.setIfInBounds_toArray, List.set_cons_zero, List.set_cons_succ, i64_w, i32_w]
         rfl
        refine pure_ (i := 8) (N := some 22) (v := ?_) (a' := ?_) #[true, true, true, true, true, true, true, false, true, false, false, false, false, false, false, false] rfl rfl (any_of HT_.out (by kernel_rfl)) (fun _ _ _ h => h) (Or.inl ⟨by rfl, ?_⟩) ?_ ?_
        rotate_left
        ·intro w'
         go_simp
         with_reducible rfl
        rotate_left
        ·simp only [Act.put, List.setIfInBounds_toArray, List.set_cons_zero, List.set_cons_succ, i64_w, i32_w]
         rfl
        refine pure_ (i := 9) (N := some 23) (v := ?_) (a' := ?_) #[true, true, true, true, true, true, true, false, true, true, false, false, false, false, false, false] rfl rfl (any_of HT_.out (by kernel_rfl)) (fun _ _ _ h => h) (Or.inl ⟨by rfl, ?_⟩) ?_ ?_
        rotate_left
        ·intro w'
         go_simp
         with_reducible rfl
        rotate_left
        ·simp only [Act.put, List.setIfInBounds_toArray, List.set_cons_zero, List.set_cons_succ, i64_w, i32_w]
         rfl
        refine pure_ (i := 10) (N := some 24) (v := ?_) (a' := ?_) #[true, true, true, true, true, true, true, false, true, true, true, false, false, false, false, false] rfl rfl (any_of HT_.out (by kernel_rfl)) (fun _ _ _ h => h) (Or.inl ⟨by rfl, ?_⟩) ?_ ?_
        rotate_left
        ·intro w'
         go_simp
         with_reducible rfl
        rotate_left
        ·simp only [Act.put, List.setIfInBounds_toArray, List.set_cons_zero, List.set_cons_succ, i64_w, i32_w]
         rfl
        refine take_ (i := 7) (N := some 21) (v := ?_) (a' := ?_) #[true, true, true, true, true, true, true, true, true, true, true, false, false, false, false, false] rfl rfl (take_ofW HT_.out HW_.out (by kernel_rfl)) (fun _ _ _ h => h) (Or.inl ⟨by rfl, ?_⟩) hHeld ?_ ?_
        rotate_left
        ·rintro w' ⟨s0, s1⟩
         go_simp
         with_reducible rfl
        rotate_left
        ·simp only [Act.put, List.setIfInBounds_toArray, List.set_cons_zero, List.set_cons_succ, i64_w, i32_w]
         rfl
        refine take_ (i := 11) (N := some 25) (v := ?_) (a' := ?_) #[true, true, true, true, true, true, true, true, true, true, true, true, false, false, false, false] rfl rfl (take_ofW HT_.out HW_.out (by kernel_rfl)) (fun _ _ _ h => h) (Or.inl ⟨by rfl, ?_⟩) hHeld ?_ ?_
        rotate_left
        ·rintro w' ⟨s0, s1⟩
         go_simp
         with_reducible rfl
        rotate_left
        ·simp only [Act.put, List.setIfInBounds_toArray, List.set_cons_zero, List.set_cons_succ, i64_w, i32_w]
         rfl
        refine pure_ (i := 12) (N := some 26) (v := ?_) (a' := ?_) #[true, true, true, true, true, true, true, true, true, true, true, true, true, false, false, false] rfl rfl (any_of HT_.out (by kernel_rfl)) (fun _ _ _ h => h) (Or.inl ⟨by rfl, ?_⟩) ?_ ?_
        rotate_left
        ·intro w'
         go_simp
         with_reducible rfl
        rotate_left
        ·simp only [Act.put, List.setIfInBounds_toArray, List.set_cons_zero, List.set_cons_succ, i64_w, i32_w]
         rfl
        refine last_ (i := 13) (N := none) #[true, true, true, true, true, true, true, true, true, true, true, true, true, true, false, false] rfl rfl (one_of HT_.out (by kernel_rfl)) (by decide) (fun K hK => ?_)
        refine skip_ (w1 := ?_) (by rfl) rfl ?_ ?_
        rotate_left
        ·go_simp
         rfl
        refine hK.out _ _ ?_
        clear hK K
        refine pure_ (i := 14) (N := some 27) (v := ?_) (a' := ?_) #[true, true, true, true, true, true, true, true, true, true, true, true, true, true, true, false] rfl rfl (any_of HT_.out (by kernel_rfl)) (fun _ _ _ h => h) (Or.inl ⟨by rfl, ?_⟩) ?_ ?_
        rotate_left
        ·intro w'
         go_simp
         with_reducible rfl
        rotate_left
        ·simp only [Act.put, List.setIfInBounds_toArray, List.set_cons_zero, List.set_cons_succ, i64_w, i32_w]
         rfl
        refine last_ (i := 15) (N := none) #[true, true, true, true, true, true, true, true, true, true, true, true, true, true, true, true] rfl rfl (one_of HT_.out (by kernel_rfl)) (by decide) (fun K hK => ?_)
        refine skip_ (w1 := ?_) (by rfl) rfl ?_ ?_
        rotate_left
        ·go_simp
         rfl
        refine hK.out _ _ ?_
        clear hK K
        refine done_ (done_of HT_.out (by kernel_rfl)) ?_
        try go_wp2
        (try simp only [← hl0_1])
        go_roundg k1
        case measure => have := HK1.out; omega
        case rel => exact ⟨(y140), (wrap64 (x2_1 + 1)), (wrap64 (x3_1 - 1)), (by first | rfl | (simp; done) | (simp [*]; done)), (by first | rfl | (simp; done) | (simp [*]; done)), H', ⟨by have := HK1.out; omega⟩, ⟨by (try simp only [hl0_1]); (with_reducible repeat (first | apply Kd.R_alloc | apply Kd.R_drewN | apply Kd.R_drew)); exact HQ12.out⟩, ⟨by repeat (first | (with_reducible first | exact HK.out | apply Kept.alloc | apply Kept.drewN | apply Kept.drew | refine Kept.setCell ?_ HMgo8.out _ | refine Kept.setCell ?_ HMgo8.out _) | exact HK.out)⟩, ⟨by repeat (first | (with_reducible first | exact HB.out | apply below_alloc | apply pw_below_drewN | apply below_drew1 | refine below_set ?_ GB8.out | refine below_set ?_ GB8.out) | exact HB.out)⟩⟩
       ·rw [if_neg c7] at H
        exact absurd H (by simp)
      ·rw [if_neg c6] at H
       exact absurd H (by simp)
     ·rw [if_neg c5] at H
      exact absurd H (by simp)
    ·rw [if_neg c4] at H
     exact absurd H (by simp)
   ·rw [if_neg c3] at H
    have c3b0 : decide (x2_1 < x3_1) = false := decide_eq_false c3
    clear c3
    obtain rfl := Option.some.inj H
    go_wp2
    first | go_end0 | ((try simp only [Exit.inBlock, Exit.then]); refine bodyPost_ret (results_none rfl _ _ _) rfl ?_)
    exact ⟨by first | rfl | (simp [errW_none, errW_some] <;> rfl) | (simp [*, errW_none, errW_some] <;> rfl), (by first | exact (by (with_reducible repeat (first | apply Kd.R_alloc | apply Kd.R_drewN | apply Kd.R_drew)); exact HO_0.out) | (simp only [hl0_1]; exact (by (with_reducible repeat (first | apply Kd.R_alloc | apply Kd.R_drewN | apply Kd.R_drew)); exact HO_0.out))), by repeat (first | (with_reducible first | exact HB.out | apply below_alloc | apply pw_below_drewN | apply below_drew1) | exact HB.out), by repeat (first | (with_reducible first | exact HK.out | apply Kept.alloc | apply Kept.drewN | apply Kept.drew) | exact HK.out)⟩
end Go.Proofs.YtfonajakaimnoaaDoor.Lib
