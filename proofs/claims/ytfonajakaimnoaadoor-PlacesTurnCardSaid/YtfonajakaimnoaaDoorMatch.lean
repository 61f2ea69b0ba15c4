/- places.Match and its closures. -/
import Derived.Test.YtfonajakaimnoaaDoorPlaced
import Derived.Test.YtfonajakaimnoaaDoorContains
import Derived.Test.YtfonajakaimnoaaDoorStill
namespace Go.Proofs.YtfonajakaimnoaaDoor.C11
open Go.RowKit Go.Proofs.YtfonajakaimnoaaDoorW.PrintWords Go.Proofs.YtfonajakaimnoaaDoorW.PrintLast Go.Proofs.YtfonajakaimnoaaDoorW.PrintMore Go.Proofs.YtfonajakaimnoaaDoor.Lib Lent Go.Proofs.YtfonajakaimnoaaDoor.Fn Go.Shelf Go.Proofs.YtfonajakaimnoaaDoor.Stl
attribute [local go_sem] max2_int min2_int max_two min_two max_three min_three max_four min_four

/-- one place reached by a symbol -/
def hit (L : LL) (c : Int) (next : List Bool) (q : Int) : List Bool := next.set q.toNat (next.getD q.toNat false || (L.getD q.toNat []).any (isB c))
def reachL (L : LL) (c : Int) (next : List Bool) (l : List Int) : List Bool := l.foldl (hit L c) next

theorem hit_length (L : LL) (c : Int) (next : List Bool) (q : Int) : (hit L c next q).length = next.length := by simp [hit]
theorem reachL_length (L : LL) (c : Int) (next : List Bool) (l : List Int) : (reachL L c next l).length = next.length := by
  induction l generalizing next with
  | nil => rfl
  | cons x r ih => exact (ih _).trans (hit_length L c next x)
theorem reachL_snoc (L : LL) (c : Int) (next : List Bool) (l : List Int) (k : Nat) (x : Int) (h : l[k]? = some x) : reachL L c next (l.take (k + 1)) = hit L c (reachL L c next (l.take k)) x := by
  rw [List.take_add_one, h]
  simp [reachL, List.foldl_append]
theorem bools_at (xs : List Bool) (j : Nat) (h : j < xs.length) : (bools xs).toArray[j]? = some (.bool (xs.getD j false)) := by
  simp [bools, h, List.getD_eq_getElem?_getD]
theorem bools_set (xs : List Bool) (j : Nat) (b : Bool) : (bools xs).toArray.setIfInBounds j (.bool b) = (bools (xs.set j b)).toArray := by
  simp [bools, List.map_set]

set_option maxHeartbeats 1000000 in
set_option maxRecDepth 10000 in
theorem reach_calls (Bn g Bp Bc : Nat) (n : Nat) (A0 : Option Addr) (c0 : Nat) (L : LL) (c : Int) (next : List Bool) (A : Option Addr) (cl : Nat) (l : List Int) (w0 w : World)
    (hw : Below w0.heap.size w0 w) (hL : Kd.C kL w0 A0 L.length L) (hl : Kd.C kI w0 A l.length l) (hg0 : w0.heap.size ≤ g)
    (hn : w.cell? ⟨Bn, 0, none⟩ = some (.slice (some ⟨g, 0, none⟩) n n)) (hp : w.cell? ⟨Bp, 0, none⟩ = some (.slice A0 L.length c0)) (hc : w.cell? ⟨Bc, 0, none⟩ = some (.int .i64 c))
    (hng : Bn ≠ g) (hpg : Bp ≠ g) (hcg : Bc ≠ g) (hnl : next.length = n) (hLn : L.length = n) (hin : ∀ q ∈ l, 0 ≤ q ∧ q < (n : Int))
    (hrow : w.heap[g]? = some (.cells (bools next).toArray 4 (0, 0))) :
    Calls Tryd.prog 75 (#[.slice A l.length cl] ++ #[.pointer (some ⟨Bn, 0, none⟩), .pointer (some ⟨Bp, 0, none⟩), .pointer (some ⟨Bc, 0, none⟩)]) w fun e w' => e = .returned (.tuple #[]) ∧
      w'.heap[g]? = some (.cells (bools (reachL L c next l)).toArray 4 (0, 0)) ∧ w.heap.size ≤ w'.heap.size ∧ (∀ k, k < w.heap.size → k ≠ g → w'.heap[k]? = w.heap[k]?) ∧ Below w0.heap.size w0 w' := by
  have hu := Tryd.underlying42
  have HL := Aside0.mk hL
  have Hl := Aside0.mk hl
  have hbig := C_bound hl
  have HNL := Aside0.mk hnl
  have HLN := Aside0.mk hLn
  have HIN := Aside0.mk hin
  have HROW := Aside0.mk hrow
  have HCE := Aside0.mk (And.intro hn (And.intro hp hc))
  have HW0 := Aside0.mk hw
  clear hL hl hnl hLn hin hrow hn hp hc hw
  go_enter Tryd.func75, Tryd.ntmps75
  go_wp2_with fail
  go_loopg [9] l.length (fun gg v9 wr => ∃ (kk : Nat), kk ≤ l.length ∧ l.length - kk ≤ gg ∧ v9 = .int .i64 kk ∧ Aside0 (wr.heap[g]? = some (.cells (bools (reachL L c next (l.take kk))).toArray 4 (0, 0)) ∧ w.heap.size ≤ wr.heap.size ∧ (∀ k, k < w.heap.size → k ≠ g → wr.heap[k]? = w.heap[k]?) ∧ Below w0.heap.size w0 wr))
  case atStart => exact ⟨0, Nat.zero_le _, by omega, rfl, ⟨HROW.out, Nat.le_refl _, fun _ _ _ => rfl, HW0.out⟩⟩
  case round =>
    obtain ⟨kk, hkk, hg, rfl, HW⟩ := hrel
    have hc1 := fun (k o : Nat) (v : Value) (h1 : w.cell? ⟨k, o, none⟩ = some v) (h2 : k ≠ g) => (show wr.cell? ⟨k, o, none⟩ = some v from by
      have hlt := World.block_lt_of_cell? w _ h1
      simp only [World.cell?] at h1 ⊢
      rw [HW.out.2.2.1 k hlt h2]; exact h1)
    have hn' := hc1 _ _ _ HCE.out.1 hng
    have hp' := hc1 _ _ _ HCE.out.2.1 hpg
    have hc' := hc1 _ _ _ HCE.out.2.2 hcg
    clear hc1
    by_cases hlt : kk < l.length
    · have hltz : (kk : Int) < (l.length : Int) := by omega
      obtain ⟨ad, rfl, hcell⟩ := int_at (Kd.C_below Hl.out HW.out.2.2.2) kk l[kk] (List.getElem?_eq_getElem hlt)
      have hy : Aside0 (l[kk]? = some l[kk]) := ⟨List.getElem?_eq_getElem hlt⟩
      have hq := HIN.out l[kk] (List.getElem_mem hlt)
      generalize l[kk] = q at hcell hy hq
      obtain ⟨q, rfl⟩ := Int.eq_ofNat_of_zero_le hq.1
      have hqn : q < n := by omega
      have hqz : (q : Int) < (n : Int) := by omega
      have hq0 : (0 : Int) ≤ (q : Int) := by omega
      have hNl : (reachL L c next (l.take kk)).length = n := (reachL_length _ _ _ _).trans HNL.out
      have hLn := HLN.out
      obtain ⟨ad2, A', c', rfl, hcell2, h1, h2⟩ := list_at (Kd.C_below HL.out HW.out.2.2.2) q (L.getD q []) (by rw [List.getD_eq_getElem?_getD, List.getElem?_eq_getElem (show q < L.length by omega)]; rfl)
      have hb : wr.cell? ⟨g, q, none⟩ = some (.bool ((reachL L c next (l.take kk)).getD q false)) := (blk_cell HW.out.1 q).trans (bools_at _ _ (by omega))
      have hfz : wr.frozen? ⟨g, q, none⟩ = false := blk_frozen HW.out.1 q
      have KC := Aside0.mk (contains_calls c A' c' (L.getD q []) wr.drew (Kd.C_drew h2))
      have HN : Aside0 (reachL L c next (l.take (kk + 1)) = (reachL L c next (l.take kk)).set q ((reachL L c next (l.take kk)).getD q false || (L.getD q []).any (isB c))) := ⟨reachL_snoc L c next l kk q hy.out⟩
      have HW' : Aside0 (∀ b, (wr.setCell ⟨g, q, none⟩ (.bool b)).heap[g]? = some (.cells (bools ((reachL L c next (l.take kk)).set q b)).toArray 4 (0, 0)) ∧ w.heap.size ≤ (wr.setCell ⟨g, q, none⟩ (.bool b)).heap.size ∧ (∀ k, k < w.heap.size → k ≠ g → (wr.setCell ⟨g, q, none⟩ (.bool b)).heap[k]? = w.heap[k]?) ∧ Below w0.heap.size w0 (wr.setCell ⟨g, q, none⟩ (.bool b))) := ⟨fun b =>
        ⟨(blk_set HW.out.1 q _).trans (by rw [bools_set]), by simpa [World.setCell] using HW.out.2.1, fun k hk hkg => (Below.heap_setCell wr ⟨g, q, none⟩ _ k hkg).trans (HW.out.2.2.1 k hk hkg), HW.out.2.2.2.setCell hg0 _⟩⟩
      have hqL : q < L.length := by omega
      clear h1 h2 hNl hLn hq
      generalize L.getD q [] = ls at hcell2 KC HN
      generalize hbb : (reachL L c next (l.take kk)).getD q false = bq at hb HN
      clear hbb
      cases bq with
      | true =>
        go_wp2_with fail
        refine St.region 16 (by kernel_rfl) (by kernel_rfl) ?_
        simp only [List.take_succ_cons, List.take_zero, List.drop_succ_cons, List.drop_zero]
        iterate 7 (refine St.take (by kernel_rfl) (fun K hK => ?_); go_simp; refine hK _ ?_; clear hK K)
        iterate 7 (refine St.skip (by kernel_rfl) ?_; simp only [Act.put, List.setIfInBounds_toArray, List.set_cons_zero, List.set_cons_succ])
        iterate 2 (refine St.take (by kernel_rfl) (fun K hK => ?_); go_simp; refine hK _ ?_; clear hK K)
        refine St.nil ?_
        go_wp2
        go_roundg (l.length - (kk + 1))
        case measure => omega
        case rel =>
          refine ⟨kk + 1, by omega, by omega, by go_num, ?_⟩
          rw [HN.out, Bool.true_or]
          exact ⟨⟨(HW'.out true).1, (HW'.out true).2.1, (HW'.out true).2.2.1, below_drew (HW'.out true).2.2.2⟩⟩
      | false =>
        go_wp2_with fail
        refine St.region 16 (by kernel_rfl) (by kernel_rfl) ?_
        simp only [List.take_succ_cons, List.take_zero, List.drop_succ_cons, List.drop_zero]
        iterate 13 (refine St.take (by kernel_rfl) (fun K hK => ?_); go_simp; refine hK _ ?_; clear hK K)
        refine St.take (by kernel_rfl) (fun K hK => ?_)
        go_simp
        refine ⟨_, KC.out.mono (fun e w' h => ⟨h.1, h.2.symm⟩), hK _ ?_⟩
        clear hK K
        iterate 2 (refine St.take (by kernel_rfl) (fun K hK => ?_); go_simp; refine hK _ ?_; clear hK K)
        refine St.nil ?_
        go_wp2
        go_roundg (l.length - (kk + 1))
        case measure => omega
        case rel =>
          refine ⟨kk + 1, by omega, by omega, by go_num, ?_⟩
          rw [HN.out, Bool.false_or]
          exact ⟨⟨(HW'.out (ls.any (isB c))).1, (HW'.out (ls.any (isB c))).2.1, (HW'.out (ls.any (isB c))).2.2.1, below_drew (HW'.out (ls.any (isB c))).2.2.2⟩⟩
    · have hltz : ¬ (kk : Int) < (l.length : Int) := by omega
      obtain rfl : l.length = kk := by omega
      go_wp2
      go_end0
      rw [List.take_length] at HW
      exact ⟨rfl, HW.out⟩
end Go.Proofs.YtfonajakaimnoaaDoor.C11
