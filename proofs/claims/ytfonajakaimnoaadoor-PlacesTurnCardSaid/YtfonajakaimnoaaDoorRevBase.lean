/- places.Reverse. -/
import Derived.Test.YtfonajakaimnoaaDoorMatch2
import Derived.Test.YtfonajakaimnoaaDoorClone
import Derived.Test.YtfonajakaimnoaaDoorCheck
namespace Go.Proofs.YtfonajakaimnoaaDoor.C11
open Go.RowKit Go.Proofs.YtfonajakaimnoaaDoorW.PrintWords Go.Proofs.YtfonajakaimnoaaDoorW.PrintLast Go.Proofs.YtfonajakaimnoaaDoorW.PrintMore Go.Proofs.YtfonajakaimnoaaDoor.Lib Lent Go.Proofs.YtfonajakaimnoaaDoor.Fn Go.Shelf Go.Proofs.YtfonajakaimnoaaDoor.Stl
set_option linter.unusedVariables false
set_option linter.unusedSimpArgs false
attribute [local go_sem] max2_int min2_int max_two min_two max_three min_three max_four min_four

/-- place x goes into the lists of all places that follow it -/
def turnRow (x : Nat) (T : LL) (l : List Int) : LL := l.foldl (fun T y => T.set y.toNat (T.getD y.toNat [] ++ [(x : Int)])) T
def turnK (Fo : LL) (n : Nat) : Nat → LL
  | 0 => List.replicate n []
  | k + 1 => turnRow k (turnK Fo n k) (Fo.getD k [])
def revOk (L : LL) (F La : List Int) (Fo : LL) : Bool := placedB L F La Fo && (F :: La :: Fo).all (risesB L.length (-1))

/-- what stands beside: what was handed in, and the answer's place -/
structure RB (w : World) (s : Nat) (A0 A1 A2 A3 : Value) (b : Bool) (W : World) : Prop where
  below : Below s w W
  old : W.heap[s]? = some (.cells #[A0, A1, A2, A3, .bool b] 42 (0, 0))
  res : W.heap[s + 1]? = some (.cells #[.slice none 0 0, .slice none 0 0, .slice none 0 0, .slice none 0 0, .bool false] 42 (0, 0))
theorem RB.step {w : World} {s : Nat} {A0 A1 A2 A3 : Value} {b : Bool} {W W' : World} (h : RB w s A0 A1 A2 A3 b W) (hb : Below W.heap.size W W') (hs : s = w.heap.size := by rfl) : RB w s A0 A1 A2 A3 b W' := by
  subst hs
  exact ⟨below_step h.below hb, (hb.block _ (blk_lt h.old)).trans h.old, (hb.block _ (blk_lt h.res)).trans h.res⟩
theorem RB.held {w : World} {s : Nat} {A0 A1 A2 A3 : Value} {b : Bool} {W : World} (h : RB w s A0 A1 A2 A3 b W) :
    W.cell? ⟨s, 0, none⟩ = some A0 ∧ W.cell? ⟨s, 1, none⟩ = some A1 ∧ W.cell? ⟨s, 2, none⟩ = some A2 ∧ W.cell? ⟨s, 3, none⟩ = some A3 ∧ W.cell? ⟨s, 4, none⟩ = some (.bool b) :=
  ⟨(blk_cell h.old 0).trans rfl, (blk_cell h.old 1).trans rfl, (blk_cell h.old 2).trans rfl, (blk_cell h.old 3).trans rfl, (blk_cell h.old 4).trans rfl⟩
theorem RB.set {w : World} {s : Nat} {A0 A1 A2 A3 : Value} {b : Bool} {W : World} (h : RB w s A0 A1 A2 A3 b W) {g : Nat} (hg : s + 1 < g) (j : Nat) (u : Value) : RB w s A0 A1 A2 A3 b (W.setCell ⟨g, j, none⟩ u) :=
  ⟨h.below.setCell (by show s ≤ g; omega) _, (Below.heap_setCell W ⟨g, j, none⟩ u s (by show s ≠ g; omega)).trans h.old, (Below.heap_setCell W ⟨g, j, none⟩ u (s + 1) (by show s + 1 ≠ g; omega)).trans h.res⟩

theorem turned_calls (B : Nat) (A : Option Addr) (c : Nat) (l : List Int) (A0 : Value) (n c0 : Nat) (w : World) (hr : Kd.C kI w A l.length l) (hc : l.length ≤ c) (A0' : Option Addr) (hA : A0 = .slice A0' n c0)
    (hB : w.cell? ⟨B, 0, none⟩ = some A0) :
    Calls Tryd.prog 81 (#[.slice A l.length c] ++ #[.pointer (some ⟨B, 0, none⟩)]) w fun e w' => e = .returned (.bool (!risesB n (-1) l)) ∧ Below w.heap.size w w' := by
  subst hA
  have hu := Tryd.underlying42
  have KC := Aside0.mk (places_rises.calls (l.length + 1) A c l n (risesB n (-1) l) w hr hc (rises_eq n l (C_bound hr) (by omega)))
  clear hr hc
  go_enter Tryd.func81, Tryd.ntmps81
  go_wp2_with fail
  refine KC.out.mono ?_
  rintro e w' ⟨rfl, ⟨⟨n5, rfl⟩⟩⟩
  go_wp2_with fail
  go_ret
  exact ⟨rfl, by repeat (first | exact Below.refl _ _ | apply pw_below_drewN | apply below_drew1)⟩
def tot (Fo : LL) : Nat → Nat
  | 0 => 0
  | k + 1 => tot Fo k + (Fo.getD k []).length
def rev.T3 : Bool × List (List Nat × List Nat) := (true, [([], []), ([0], [0]), ([1], [1]), ([], []), ([3], [3]), ([4, 2], [4]), ([], []), ([6], [6]), ([], []), ([8], [8]), ([9], [9]), ([10, 10], [10]), ([2, 5, 7, 11], [2, 5, 7, 11]), ([], []), ([13, 12, 5, 0, 1, 2, 3, 4, 5, 6, 7, 8, 9, 10, 11, 12, 13], [12, 13])])
def rev.B3 : List Nat := [0, 1, 3, 0, 8, 31, 0, 64, 0, 256, 768, 1792, 4095, 0, 16383]
theorem rev.tab3 : rtab .any (opsOf Tryd.f24 3) = rev.T3 := by kernel_rfl
theorem rev.bits3 : waitsOk rev.T3.2 rev.B3 = true := by kernel_rfl
def rev.T7 : Bool × List (List Nat × List Nat) := (true, [([], []), ([0], [0]), ([], []), ([2], [2]), ([3], [3]), ([1, 4, 3], [1, 4]), ([0, 1, 2, 3, 4, 5], []), ([6, 5, 5, 0, 1, 2, 3, 4, 5], [5, 6])])
def rev.B7 : List Nat := [0, 1, 0, 4, 12, 31, 63, 127]
theorem rev.tab7 : rtab .any (opsOf Tryd.f24 7) = rev.T7 := by kernel_rfl
theorem rev.bits7 : waitsOk rev.T7.2 rev.B7 = true := by kernel_rfl
def rev.T15 : Bool × List (List Nat × List Nat) := (true, [([], []), ([0], [0]), ([], []), ([], []), ([3], [3]), ([], []), ([4, 5], [4, 5]), ([6], [6]), ([], []), ([8], [8]), ([7, 9], [7, 9]), ([1, 2, 0, 1, 2, 3, 4, 5, 6, 7, 8, 9, 10], [1, 2]), ([11, 10, 10, 0, 1, 2, 3, 4, 5, 6, 7, 8, 9, 10], [10, 11])])
def rev.B15 : List Nat := [0, 1, 0, 0, 8, 0, 56, 120, 0, 256, 1016, 2047, 4095]
theorem rev.tab15 : rtab .any (opsOf Tryd.f24 15) = rev.T15 := by kernel_rfl
theorem rev.bits15 : waitsOk rev.T15.2 rev.B15 = true := by kernel_rfl
theorem types42 : ∀ q, q ∈ 25 :: kL.E → q ≠ 42 := by decide
theorem types42i : ∀ q, q ∈ 3 :: kI.E → q ≠ 42 := by decide
theorem types25i : ∀ q, q ∈ 3 :: kI.E → q ≠ 25 := by decide
/-- what stands while the answer is built -/
structure Ls (w : World) (N b3 g3 : Nat) (A0 A1 A2 A3 v0 v1 v2 v3 : Value) (b : Bool) (La F : List Int) (ok0 ok3 : Nat → Prop) (xs T : LL) (W : World) : Prop where
  rb : RB w w.heap.size A0 A1 A2 A3 b W
  row : W.heap[b3]? = some (.cells #[v0, v1, v2, v3, .bool b] 42 (0, 0))
  k0 : Kd.S kL 25 W w.heap.size ok0 v0 xs
  k1 : Kd.R kI 3 W w.heap.size (fun k => k < N) v1 La
  k2 : Kd.R kI 3 W w.heap.size (fun k => k < N) v2 F
  k3 : Kd.S kL 25 W w.heap.size ok3 v3 T
  sb : w.heap.size + 1 < b3
  bN : b3 < N
  gN : g3 < N
  nW : N ≤ W.heap.size
  o3 : v3.ownBlock = some g3
section
variable {w : World} {N b3 g3 : Nat} {A0 A1 A2 A3 v0 v1 v2 v3 : Value} {b : Bool} {La F : List Int} {ok0 ok3 : Nat → Prop} {xs T : LL} {W W' W1 : World}
theorem Ls.step (h : Ls w N b3 g3 A0 A1 A2 A3 v0 v1 v2 v3 b La F ok0 ok3 xs T W) (hb : Below W.heap.size W W') : Ls w N b3 g3 A0 A1 A2 A3 v0 v1 v2 v3 b La F ok0 ok3 xs T W' :=
  ⟨h.rb.step hb, (hb.block _ (blk_lt h.row)).trans h.row, Kd.S_below h.k0 hb, Kd.R_below h.k1 hb, Kd.R_below h.k2 hb, Kd.S_below h.k3 hb, h.sb, h.bN, h.gN, Nat.le_trans h.nW hb.size, h.o3⟩
theorem Ls.put0 (h : Ls w N b3 g3 A0 A1 A2 A3 v0 v1 v2 v3 b La F (fun k => N ≤ k) (fun k => k = g3) xs T W) (hg : W.grownBy W1 v0.ownBlock) (hb : Below w.heap.size w W1) {v0' : Value} {ys : LL} (ho : Kd.S kL 25 W1 w.heap.size (fun k => N ≤ k) v0' ys) :
    Ls w N b3 g3 A0 A1 A2 A3 v0' v1 v2 v3 b La F (fun k => N ≤ k) (fun k => k = g3) ys T (W1.setCell ⟨b3, 0, none⟩ v0') := by
  have hne : ∀ k, k < N → some k ≠ v0.ownBlock := fun k hk he => by
    have := (Kd.S_R h.k0).1 k he.symm
    omega
  have hs := h.sb
  have hbN := h.bN
  have hrow := blk_grown h.row hg (hne _ hbN)
  refine ⟨RB.set ⟨hb, blk_grown h.rb.old hg (hne _ (by omega)), blk_grown h.rb.res hg (hne _ (by omega))⟩ hs 0 v0', blk_put hrow 0 _ rfl, Kd.S_set ho hrow types42 0 v0', Kd.R_set (Kd.R_grown h.k1 hg hne) hrow types42i 0 v0', Kd.R_set (Kd.R_grown h.k2 hg hne) hrow types42i 0 v0', Kd.S_set (Kd.S_grown h.k3 hg (fun k hk => hne k (by have := h.gN; omega))) hrow types42 0 v0', hs, hbN, h.gN, ?_, h.o3⟩
  have := hg.size
  have := h.nW
  simpa [World.setCell] using (by omega : N ≤ W1.heap.size)
theorem setCells_one (W : World) (g o : Nat) (u : Value) : W.setCells g o [u] = W.setCell ⟨g, o, none⟩ u := by simp [World.setCells]
theorem Ls.put3 {n c : Nat} (h : Ls w N b3 g3 A0 A1 A2 A3 v0 v1 v2 (.slice (some ⟨g3, 0, none⟩) n c) b La F (fun k => k < N ∧ k ≠ g3) (fun k => k = g3 ∨ N ≤ k) xs T W) {oki : Nat → Prop} {u : Value} {y : Nat} (hy : y < n)
    (hoki : ∀ k, oki k → (k = g3 ∨ N ≤ k) ∧ k ≠ g3) (hu : Kd.R kI 3 W w.heap.size oki u (T.getD y [])) (hH : Kd.H kL 25 W w.heap.size (fun k => k = g3 ∨ N ≤ k) (.slice (some ⟨g3, 0, none⟩) n c) T (y : Int) oki [u])
    (hg : W.grownBy W1 u.ownBlock) (hb : Below w.heap.size w W1) {u' : Value} {row' : List Int} (ho : Kd.R kI 3 W1 w.heap.size (fun k => oki k ∨ (k = g3 ∨ N ≤ k) ∧ W.heap.size ≤ k) u' row') :
    Ls w N b3 g3 A0 A1 A2 A3 v0 v1 v2 (.slice (some ⟨g3, 0, none⟩) n c) b La F (fun k => k < N ∧ k ≠ g3) (fun k => k = g3 ∨ N ≤ k) xs (T.set y row') (W1.setCell ⟨g3, y, none⟩ u') := by
  have hne : ∀ k, k < N → some k ≠ u.ownBlock := fun k hk he => by
    have := hoki k (hu.1 k he.symm)
    omega
  have hgN := h.gN
  obtain ⟨cells, hcells⟩ := Kd.S_typed h.k3 g3 (by simp [Value.ownBlock])
  have hrow3 := blk_grown hcells hg (hne _ hgN)
  have hs := h.sb
  have hbN := h.bN
  have e1 : w.heap.size ≠ g3 := blk_ne h.rb.old hcells (by decide)
  have e2 : w.heap.size + 1 ≠ g3 := blk_ne h.rb.res hcells (by decide)
  have e3 : b3 ≠ g3 := blk_ne h.row hcells (by decide)
  have hbase : w.heap.size ≤ g3 := Kd.S_base h.k3 g3 (by simp [Value.ownBlock])
  have H1 := Kd.H_grown (Kd.H_widen hH) hg (fun k hk => .inl (hu.1 k hk))
  obtain ⟨hS, _⟩ := Kd.S_seg0 H1 (Int.natCast_nonneg y) (by exact_mod_cast hy) (seg := [u']) (j := 0) (Nat.le_refl 1) (x' := row') (okp := fun k => oki k ∨ (k = g3 ∨ N ≤ k) ∧ W.heap.size ≤ k) (Kd.M_row ho) (fun _ hk => hk)
  have hS' : Kd.S kL 25 (W1.setCell ⟨g3, y, none⟩ u') w.heap.size (fun k => k = g3 ∨ N ≤ k) (.slice (some ⟨g3, 0, none⟩) n c) (T.set y row') := by
    rw [setCells_one] at hS
    rw [show ((y : Int)).toNat * kL.sz + 0 = y from Nat.mul_one _] at hS
    exact hS
  refine ⟨⟨hb.setCell hbase _, ?_, ?_⟩, ?_, Kd.S_far (p := ⟨g3, y, none⟩) (Kd.S_grown h.k0 hg (fun k hk => hne k hk.1)) (fun _ hk => hk.2) u', Kd.R_set (Kd.R_grown h.k1 hg hne) hrow3 types25i y u', Kd.R_set (Kd.R_grown h.k2 hg hne) hrow3 types25i y u', hS', hs, hbN, hgN, ?_, h.o3⟩
  · exact (Below.heap_setCell W1 ⟨g3, y, none⟩ u' _ e1).trans (blk_grown h.rb.old hg (hne _ (by omega)))
  · exact (Below.heap_setCell W1 ⟨g3, y, none⟩ u' _ e2).trans (blk_grown h.rb.res hg (hne _ (by omega)))
  · exact (Below.heap_setCell W1 ⟨g3, y, none⟩ u' _ e3).trans (blk_grown h.row hg (hne _ hbN))
  · have := hg.size
    have := h.nW
    simpa [World.setCell] using (by omega : N ≤ W1.heap.size)
/-- from the first loop to the second -/
theorem Ls.over (h : Ls w N b3 g3 A0 A1 A2 A3 v0 v1 v2 v3 b La F (fun k => N ≤ k) (fun k => k = g3) xs T W) :
    Ls w W.heap.size b3 g3 A0 A1 A2 A3 v0 v1 v2 v3 b La F (fun k => k < W.heap.size ∧ k ≠ g3) (fun k => k = g3 ∨ W.heap.size ≤ k) xs T W := by
  have hgN := h.gN
  have hnW := h.nW
  have hbN := h.bN
  exact ⟨h.rb, h.row, Kd.S_mono (Kd.S_bound h.k0) (fun k hk => ⟨hk.2.2.1, by have := hk.1; omega⟩), Kd.R_mono h.k1 (fun k hk => by omega), Kd.R_mono h.k2 (fun k hk => by omega), Kd.S_mono h.k3 (fun k hk => .inl hk), h.sb, by omega, by omega, Nat.le_refl _, h.o3⟩
end
theorem turnRow_length (x : Nat) (T : LL) (l : List Int) : (turnRow x T l).length = T.length := by
  induction l generalizing T with
  | nil => rfl
  | cons y r ih => exact (ih _).trans (by simp)
theorem turnK_length (Fo : LL) (n k : Nat) : (turnK Fo n k).length = n := by
  induction k with
  | zero => simp [turnK]
  | succ k ih => exact (turnRow_length _ _ _).trans ih
theorem turnRow_snoc (x : Nat) (T : LL) (l : List Int) (k y : Nat) (h : l[k]? = some (y : Int)) : turnRow x T (l.take (k + 1)) = (turnRow x T (l.take k)).set y ((turnRow x T (l.take k)).getD y [] ++ [(x : Int)]) := by
  rw [List.take_add_one, h]
  simp [turnRow, List.foldl_append]
theorem turnRow_bound (x : Nat) (l : List Int) : ∀ (T : LL) (B : Nat), (∀ y, (T.getD y []).length ≤ B) → ∀ y, ((turnRow x T l).getD y []).length ≤ B + l.length := by
  induction l with
  | nil => exact fun T B h y => h y
  | cons z r ih =>
    intro T B h y
    have := ih (T.set z.toNat (T.getD z.toNat [] ++ [(x : Int)])) (B + 1) (fun q => by
      rw [List.getD_eq_getElem?_getD, List.getElem?_set]
      split
      · split
        · have := h z.toNat
          simp only [Option.getD_some, List.length_append, List.length_singleton]
          omega
        · simp
      · have := h q
        rw [List.getD_eq_getElem?_getD] at this
        omega) y
    show ((turnRow x (T.set z.toNat (T.getD z.toNat [] ++ [(x : Int)])) r).getD y []).length ≤ _
    simp only [List.length_cons]
    omega
theorem turnK_bound (Fo : LL) (n k : Nat) : ∀ y, ((turnK Fo n k).getD y []).length ≤ tot Fo k := by
  induction k with
  | zero => intro y; simp only [turnK, List.getD_eq_getElem?_getD, List.getElem?_replicate]; split <;> simp [tot]
  | succ k ih => exact turnRow_bound k _ _ _ ih
theorem tot_mono (Fo : LL) {j k : Nat} (h : j ≤ k) : tot Fo j ≤ tot Fo k := by
  induction h with
  | refl => exact Nat.le_refl _
  | step _ ih => exact Nat.le_trans ih (Nat.le_add_right _ _)
section
variable {w : World} {N b3 g3 : Nat} {A0 A1 A2 A3 v0 v1 v2 : Value} {b : Bool} {La F : List Int} {xs T : LL} {W W1 : World}
theorem put3_at {n c : Nat} (h : Ls w N b3 g3 A0 A1 A2 A3 v0 v1 v2 (.slice (some ⟨g3, 0, none⟩) n c) b La F (fun k => k < N ∧ k ≠ g3) (fun k => k = g3 ∨ N ≤ k) xs T W) {oki : Nat → Prop} {u : Value} {y : Nat} (hy : y < n)
    (hoki : ∀ k, oki k → (k = g3 ∨ N ≤ k) ∧ k ≠ g3) (hu : Kd.R kI 3 W w.heap.size oki u (T.getD y [])) (hH : Kd.H kL 25 W w.heap.size (fun k => k = g3 ∨ N ≤ k) (.slice (some ⟨g3, 0, none⟩) n c) T (y : Int) oki [u])
    (hg : W.grownBy W1 u.ownBlock) : W1.cell? ⟨b3, 3, none⟩ = some (.slice (some ⟨g3, 0, none⟩) n c) ∧ W1.cell? ⟨g3, y, none⟩ = some u ∧ W1.frozen? ⟨g3, y, none⟩ = false := by
  have hne : ∀ k, k < N → some k ≠ u.ownBlock := fun k hk he => by
    have := hoki k (hu.1 k he.symm)
    omega
  have H1 := Kd.H_grown hH hg (fun k hk => hu.1 k hk)
  obtain ⟨h2, h3⟩ := Kd.H_at H1 (Int.natCast_nonneg y) (by exact_mod_cast hy)
  have e : ((y : Int)).toNat * kL.sz + 0 = y := Nat.mul_one _
  refine ⟨(blk_cell (blk_grown h.row hg (hne _ h.bN)) 3).trans rfl, ?_, ?_⟩
  · have := h2 0 u rfl
    rwa [e] at this
  · have := h3 0
    rwa [e] at this
end
/-- what the answer is -/
def revPost (L : LL) (F La : List Int) (Fo : LL) (b : Bool) (w : World) : Ending → World → Prop := fun e w' => ∃ v0 v1 v2 v3, e = .returned (.agg #[v0, v1, v2, v3, .bool (revOk L F La Fo && b)]) ∧
      Kd.R kL 25 w' w.heap.size (fun _ => True) v0 (if revOk L F La Fo then L else []) ∧ Kd.R kI 3 w' w.heap.size (fun _ => True) v1 (if revOk L F La Fo then La else []) ∧ Kd.R kI 3 w' w.heap.size (fun _ => True) v2 (if revOk L F La Fo then F else []) ∧
      Kd.R kL 25 w' w.heap.size (fun _ => True) v3 (if revOk L F La Fo then turnK Fo L.length L.length else []) ∧ Below w.heap.size w w'
theorem R_set5 {α : Type} {d : Kd α} {e base : Nat} {ok : Nat → Prop} {v : Value} {xs : List α} {W : World} {g : Nat} {cells : Array Value} (h : d.R e W base ok v xs) (hb : W.heap[g]? = some (.cells cells 42 (0, 0))) (ht : ∀ q, q ∈ e :: d.E → q ≠ 42) (u0 u1 u2 u3 u4 : Value) :
    d.R e (((((W.setCell ⟨g, 0, none⟩ u0).setCell ⟨g, 1, none⟩ u1).setCell ⟨g, 2, none⟩ u2).setCell ⟨g, 3, none⟩ u3).setCell ⟨g, 4, none⟩ u4) base (fun _ => True) v xs :=
  Kd.R_mono (Kd.R_far (p := ⟨g, 4, none⟩) (Kd.R_far (p := ⟨g, 3, none⟩) (Kd.R_far (p := ⟨g, 2, none⟩) (Kd.R_far (p := ⟨g, 1, none⟩) (Kd.R_far (p := ⟨g, 0, none⟩) (Kd.R_types h hb ht) (fun _ hk => hk.2) u0) (fun _ hk => hk.2) u1) (fun _ hk => hk.2) u2) (fun _ hk => hk.2) u3) (fun _ hk => hk.2) u4) (fun _ _ => trivial)
end Go.Proofs.YtfonajakaimnoaaDoor.C11
