/- MinimalApart: whatever two machines, number of symbols and word are handed in, where what is read is of bulk at most 1048576: Apart answers as the document does, the two machines' ways the same, and what was handed in is as it was: the law's call returns true and leaves what it was handed as it was. The package's errors are laid as their initialisers lay them. -/
import Derived.Maps.OwnOps
import Derived.WideKeyPair
import Derived.DeepKeys4
import Derived.Test.YtfonajakaimnoaaDoorMS1
import Derived.Test.YtfonajakaimnoaaDoorRows
import Derived.Test.YtfonajakaimnoaaDoorMS0
import Derived.ProofKit
import Derived.Deep.Slices
import Derived.SizedLaws
import Derived.Test.YtfonajakaimnoaaDoorCards
import Derived.Test.YtfonajakaimnoaaDoorTie
import Derived.WalkKit
import Derived.OpenShut
import Derived.Deep.DeepHandedRow
import Derived.LaidLaws
import Derived.Below

namespace Go.Proofs.YtfonajakaimnoaaDoor.C13
open Go Go.ChangeMaps Go.MapKept Go.WideElems Go.WideMaps Go.ChangeShapes
open Go.Maps (Keyed)
set_option linter.unusedVariables false
set_option linter.unusedSimpArgs false
abbrev RM := Value → Option (DataW Unit × List MemPlace)
def MapIs (P : Program) (k : TypeId) (R : RM) (w : World) (b n : Nat) (F : Value → Value → Prop) : Prop :=
 ∃ es clock, w.heap[b]? = some (.map es clock) ∧ Fit P k R es clock ∧ es.size = n ∧ (∀ x ∈ es.toList, F x.key x.val) ∧ ∀ key v, F key v → ∃ x ∈ es.toList, x.key = key ∧ x.val = v
section
variable {P : Program} {k e t : TypeId} {R : RM} {w w' : World} {b n : Nat} {F : Value → Value → Prop}
theorem MapIs_made (w : World) (P : Program) (k : TypeId) (R : RM) : MapIs P k R (w.alloc (.map #[] 0)) w.heap.size 0 (fun _ _ => False) :=
 ⟨#[], 0, (MapKept.heap_alloc w _).1, ⟨by simp, stamped_empty 0, by simp⟩, rfl, by simp, fun _ _ h => h.elim⟩
theorem MapIs.move (h : MapIs P k R w b n F) (hm : w'.heap[b]? = w.heap[b]?) : MapIs P k R w' b n F := by
 obtain ⟨es, clock, hb, r⟩ := h
 exact ⟨es, clock, hm.trans hb, r⟩
theorem MapIs.lt (h : MapIs P k R w b n F) : b < w.heap.size := by
 obtain ⟨es, clock, hb, _⟩ := h
 exact (Array.getElem?_eq_some_iff.1 hb).1
theorem MapIs.congr {F' : Value → Value → Prop} (h : MapIs P k R w b n F) (hF : ∀ x v, F x v ↔ F' x v) : MapIs P k R w b n F' := by
 obtain ⟨es, clock, hb, hf, hs, h1, h2⟩ := h
 exact ⟨es, clock, hb, hf, hs, fun x hx => (hF _ _).1 (h1 x hx), fun key v hv => h2 key v ((hF _ _).2 hv)⟩
theorem MapIs.look (c : Bool) (h : MapIs P k R w b n F) (K : Keyed P k) (ht : P.underlying t = some (.map k e)) {z : Value} (hz : (zeroValue e).run P w = .ok z w) {key : Value} {kl : Lit} (hkey : keyOf P k key = some kl) :
  ((Instr.lookup t (.map (some b)) key c).run P w = .ok (if c then .tuple #[z, .bool false] else z) w ∧ ∀ v, ¬ F key v) ∨
  ∃ v, F key v ∧ (Instr.lookup t (.map (some b)) key c).run P w = .ok (if c then .tuple #[v, .bool true] else v) w := by
 obtain ⟨es, clock, hb, hf, hs, h1, h2⟩ := h
 rcases Maps.fit_look c K ht hz hb hf hkey with ⟨hrun, hno, _⟩ | ⟨e0, y, hm, he, hrun, _⟩
 ·exact .inl ⟨hrun, fun v hv => by
   obtain ⟨x, hx, hk, _⟩ := h2 key v hv
   exact hno x hx hk⟩
 ·exact .inr ⟨e0.val, by rw [← he]; exact h1 e0 hm, hrun⟩
theorem MapIs.store (h : MapIs P k R w b n F) (K : Keyed P k) (ht : P.underlying t = some (.map k e)) (hn : n < maxLen) {key val : Value} {kl : Lit} (hkey : keyOf P k key = some kl) {yv : DataW Unit × List MemPlace} (hv : R val = some yv) (hnew : ∀ v, ¬ F key v) :
  ∃ w', (Instr.mapUpdate t (.map (some b)) key val).run P w = .ok () w' ∧ MapIs P k R w' b (n + 1) (fun x v => (x = key ∧ v = val) ∨ F x v) ∧ (∀ j, j ≠ b → w'.heap[j]? = w.heap[j]?) ∧ w'.heap.size = w.heap.size ∧ w.grownBy w' (some b) := by
 obtain ⟨es, clock, hb, hf, hs, h1, h2⟩ := h
 rcases K.find w hkey es.toList (fun x hx => by obtain ⟨y, hy⟩ := hf.reads x hx; exact ⟨_, rd_key hy⟩) with ⟨hr, hno⟩ | ⟨j, e0, hr, hj, hk⟩
 ·have hno' : ∀ x ∈ es.toList, x.key ≠ key := hno
  refine ⟨setBlock w b (.map (es.push ⟨key, val, clock⟩) (clock + 1)), ?_, ⟨es.push ⟨key, val, clock⟩, clock + 1, heap_setBlock_same hb _, ⟨by simp; omega, stamped_push hf.stamped hno', ?_⟩, by simp [hs], ?_, ?_⟩, fun j hj => heap_setBlock_other hb _ hj, ?_, ?_⟩
  ·simp [Instr.mapUpdate, run_underlying ht, MapKept.run_getObj_map hb, K.check w false hkey, hr, MapKept.run_setObj_map _ hb, Result.andThen, setBlock]
  ·intro x hx
   simp only [Array.toList_push, List.mem_append, List.mem_singleton] at hx
   rcases hx with hx | rfl
   ·exact hf.reads x hx
   ·exact ⟨_, rd_mk hkey hv⟩
  ·intro x hx
   simp only [Array.toList_push, List.mem_append, List.mem_singleton] at hx
   rcases hx with hx | rfl
   ·exact .inr (h1 x hx)
   ·exact .inl ⟨rfl, rfl⟩
  ·intro x v hxv
   rcases hxv with ⟨rfl, rfl⟩ | hxv
   ·exact ⟨⟨x, v, clock⟩, by simp, rfl, rfl⟩
   ·obtain ⟨y, hy, r⟩ := h2 x v hxv
    exact ⟨y, by simp [Array.mem_toList_iff.1 hy], r⟩
  ·simp [setBlock]
  ·exact ⟨rfl, rfl, rfl, by simp [setBlock], fun j hj hne => heap_setBlock_other hb _ (fun e => hne (by rw [e]))⟩
 ·exact absurd (by rw [← hk]; exact h1 e0 (List.mem_of_getElem? hj)) (hnew e0.val)
end
end Go.Proofs.YtfonajakaimnoaaDoor.C13

namespace Go.Proofs.YtfonajakaimnoaaDoor.C13
open Go Go.ChangeMaps Go.MapKept Go.WideElems Go.WideMaps Go.ChangeShapes
open Go.Maps (Keyed)
set_option linter.unusedVariables false
set_option linter.unusedSimpArgs false
theorem laidOut13 : laidOutB Tryd.prog = true := by kernel_rfl
theorem rowTwo : 93 < Tryd.prog.types.size := of_decide_eq_true (by kernel_rfl)
theorem arrKey : ArrKey Tryd.prog 104 3 2 := ⟨Tryd.underlying104, by kernel_rfl, by kernel_rfl, by kernel_rfl⟩
theorem cells93 : Tryd.prog.cellsOf 93 = 2 := by kernel_rfl
theorem cells3' : Tryd.prog.cellsOf 3 = 1 := by kernel_rfl
theorem kt93 : Tryd.prog.keyType 93 = true := by kernel_rfl
theorem kta93 : Tryd.prog.keyTypeAt 2 93 = true := by kernel_rfl
theorem lawTwo' : KeyLaw Tryd.prog 93 := deep_law_laid laidOut13 (m := 2) (by omega) rowTwo kta93 (by rw [Tryd.underlying93])
theorem lawTwo : Keyed Tryd.prog 93 := Keyed.of_law lawTwo'
theorem lawArr : Keyed Tryd.prog 104 := Keyed.of_law arrKey.law
theorem sizeTypes : ∃ m, Tryd.prog.types.size = m + 1 := ⟨Tryd.prog.types.size - 1, by have := rowTwo; omega⟩
theorem zeroInt (w : World) : (zeroValue 3).run Tryd.prog w = .ok (.int .i64 0) w := by kernel_rfl
theorem zeroBool (w : World) : (zeroValue 4).run Tryd.prog w = .ok (.bool false) w := by kernel_rfl
theorem keyTwo {a b : Int} (wa : (Lit.int .i64 a).wf = true) (wb : (Lit.int .i64 b).wf = true) : ∃ l, keyOf Tryd.prog 93 (.agg #[.int .i64 a, .int .i64 b]) = some l := by
 obtain ⟨m, hm⟩ := sizeTypes
 refine ⟨.string (keyBytes [.int .i64 a, .int .i64 b]), ?_⟩
 unfold keyOf
 simp only [Tryd.underlying93]
 rw [if_pos (by simp [kt93, Value.formed, Tryd.underlying93, cells93]), hm]
 unfold Program.keyLits
 simp only [Tryd.underlying93, Value.cells]
 simp [Program.keyLits, Tryd.underlying3, cells93, cells3', wa, wb]
theorem keyArr {a b : Int} (wa : (Lit.int .i64 a).wf = true) (wb : (Lit.int .i64 b).wf = true) : ∃ l, keyOf Tryd.prog 104 (.agg #[.int .i64 a, .int .i64 b]) = some l :=
 ⟨_, keyOf_pair arrKey Tryd.underlying3 sizeTypes wa wb⟩
end Go.Proofs.YtfonajakaimnoaaDoor.C13

namespace Go.Proofs.YtfonajakaimnoaaDoor.C13
open Go.RowKit Go.Proofs.YtfonajakaimnoaaDoorW.PrintWords Go.Proofs.YtfonajakaimnoaaDoorW.PrintLast Go.Proofs.YtfonajakaimnoaaDoorW.PrintMore Go.Proofs.YtfonajakaimnoaaDoor.Lib Lent Go.Proofs.YtfonajakaimnoaaDoor.Fn Go.Proofs.YtfonajakaimnoaaDoor.C11 Go.Proofs.YtfonajakaimnoaaDoor.Lend Go.Proofs.YtfonajakaimnoaaDoor.C14
set_option linter.unusedVariables false
set_option linter.unusedSimpArgs false
def keysP (st : List P4) (x v : Value) : Prop := ∃ (j : Nat) (p : P4), st[j]? = some p ∧ x = .agg #[.int .i64 p.a, .int .i64 p.b] ∧ v = .int .i64 j
theorem keysP_no {st : List P4} {a b : Int} (h : metP a b st = false) : ∀ v, ¬ keysP st (.agg #[.int .i64 a, .int .i64 b]) v := by
 rintro v ⟨j, p, hj, e, _⟩
 refine metP_false h p (List.mem_of_getElem? hj) ?_
 simp at e
 exact ⟨e.1.symm, e.2.symm⟩
theorem keysP_yes {st : List P4} {a b : Int} (h : metP a b st = true) : ∃ v, keysP st (.agg #[.int .i64 a, .int .i64 b]) v := by
 obtain ⟨q, hq, e⟩ := List.any_eq_true.1 h
 simp at e
 obtain ⟨j, hj, rfl⟩ := List.getElem_of_mem hq
 exact ⟨_, j, st[j], List.getElem?_eq_getElem hj, by rw [e.1, e.2], rfl⟩
theorem keysP_snoc (st : List P4) (a b s f : Int) (x v : Value) : (x = .agg #[.int .i64 a, .int .i64 b] ∧ v = .int .i64 st.length) ∨ keysP st x v ↔ keysP (st ++ [⟨a, b, s, f⟩]) x v := by
 constructor
 ·rintro (⟨rfl, rfl⟩ | ⟨j, p, hj, e1, e2⟩)
  ·exact ⟨st.length, ⟨a, b, s, f⟩, by simp, rfl, rfl⟩
  ·exact ⟨j, p, by rw [List.getElem?_append_left (List.getElem?_eq_some_iff.1 hj).1]; exact hj, e1, e2⟩
 ·rintro ⟨j, p, hj, e1, e2⟩
  rcases Nat.lt_trichotomy j st.length with hlt | he | hgt
  ·rw [List.getElem?_append_left hlt] at hj
   exact .inr ⟨j, p, hj, e1, e2⟩
  ·subst he
   simp at hj
   subst hj
   exact .inl ⟨e1, e2⟩
  ·rw [List.getElem?_eq_none (by simp; omega)] at hj
   cases hj
noncomputable abbrev RI : RM := plainElem Tryd.prog 3
structure AP (w : World) (CA CB : Array Value) (bm : Nat) (v : Value) (st mt : List P4) (W : World) : Prop where
 below : Below w.heap.size w W
 xa : W.heap[w.heap.size]? = some (.cells CA 24 (0, 0))
 xb : W.heap[w.heap.size + 1]? = some (.cells CB 24 (0, 0))
 steps : Kd.R k95 95 W w.heap.size (fun _ => True) v (st.map toS)
 map : MapIs Tryd.prog 93 RI W bm mt.length (keysP mt)
 o : w.heap.size + 2 ≤ bm
section
variable {w : World} {CA CB : Array Value} {bm : Nat} {v : Value} {st mt : List P4} {W W' : World}
theorem AP.step (h : AP w CA CB bm v st mt W) (hb : Below W.heap.size W W') : AP w CA CB bm v st mt W' :=
 ⟨below_step h.below hb, (hb.block _ (blk_lt h.xa)).trans h.xa, (hb.block _ (blk_lt h.xb)).trans h.xb, Kd.R_below h.steps hb, h.map.move (hb.block _ h.map.lt), h.o⟩
theorem AP.put {a b s f : Int} (h : AP w CA CB bm v st mt W) (hm : MapIs Tryd.prog 93 RI W' bm (mt.length + 1) (fun x v => (x = .agg #[.int .i64 a, .int .i64 b] ∧ v = .int .i64 mt.length) ∨ keysP mt x v)) (ho : ∀ j, j ≠ bm → W'.heap[j]? = W.heap[j]?) (hg : W.grownBy W' (some bm)) : AP w CA CB bm v st (mt ++ [⟨a, b, s, f⟩]) W' := by
 obtain ⟨es, clock, he, _⟩ := h.map
 refine ⟨h.below.grown hg h.below.size (fun k hk => by cases hk; have := h.o; omega), (ho _ (by have := h.o; omega)).trans h.xa, (ho _ (by have := h.o; omega)).trans h.xb, ?_, ?_, h.o⟩
 ·refine Kd.R_mono (Kd.R_move (Kd.R_bound h.steps) (fun k hk => ho k ?_)) (fun _ _ => trivial)
  rintro rfl
  obtain ⟨_, _, _, q, _, cells, hc⟩ := hk
  rw [he] at hc
  cases hc
 ·have := hm.congr (keysP_snoc mt a b s f)
  rw [List.length_append, List.length_singleton]
  exact this
theorem AP.grown {v1 : Value} {st' : List P4} (h : AP w CA CB bm v st mt W) (hr : Kd.R k95 95 W' w.heap.size (fun _ => True) v1 (st'.map toS)) (hB : Below w.heap.size w W') (hg : W.grownBy W' v.ownBlock) : AP w CA CB bm v1 st' mt W' := by
 obtain ⟨es, clock, he, _⟩ := h.map
 have hty := fun k hk => own_typed (Kd.R_own h.steps).choose_spec k hk
 refine ⟨hB, (hg.block _ (blk_lt h.xa) (Kd.R_ne h.steps h.xa (by decide))).trans h.xa, (hg.block _ (blk_lt h.xb) (Kd.R_ne h.steps h.xb (by decide))).trans h.xb, hr, h.map.move (hg.block _ h.map.lt (fun e => ?_)), h.o⟩
 obtain ⟨cells, hc⟩ := hty bm e.symm
 rw [he] at hc
 cases hc
end
theorem may_open {s : Int} {N O : LL} {sy : Int} (h : mayB s N O sy = true) : 0 ≤ sy ∧ 0 < N.length ∧ O.length = N.length ∧ 0 ≤ s ∧ s < N.length ∧ RowsOk sy.toNat N := by
 simp only [mayB, headB, Bool.and_eq_true, decide_eq_true_eq, List.all_eq_true] at h
 obtain ⟨⟨h1, h2, h3, h4, h5⟩, h6, _⟩ := h
 refine ⟨h1, h2, h3, h4, h5, fun r hr => ?_⟩
 have := h6 r hr
 simp only [rowB, Bool.and_eq_true, decide_eq_true_eq, Bool.not_eq_true', List.any_eq_false, outB, Bool.or_eq_true] at this
 exact ⟨by omega, fun x hx => by have := this.2 x hx; omega⟩
def ApartS (s1 : Int) (N1 O1 : LL) (s2 : Int) (N2 O2 : LL) (sy : Int) (word : List Int) (b : Bool) (r : Int) : Prop :=
 if mayB s1 N1 O1 sy && mayB s2 N2 O2 sy then ApR N1 O1 N2 O2 sy.toNat s1 s2 word b ∧ r = 0 else word = [] ∧ b = false ∧ r = 1
theorem ApartS.uniq {s1 : Int} {N1 O1 : LL} {s2 : Int} {N2 O2 : LL} {sy : Int} {v v' : List Int} {b b' : Bool} {r r' : Int} (h : ApartS s1 N1 O1 s2 N2 O2 sy v b r) (h' : ApartS s1 N1 O1 s2 N2 O2 sy v' b' r') : v = v' ∧ b = b' ∧ r = r' := by
 unfold ApartS at h h'
 split at h
 ·rw [if_pos (by assumption)] at h'
  obtain ⟨e1, e2⟩ := h.1.uniq h'.1
  exact ⟨e1, e2, by rw [h.2, h'.2]⟩
 ·rw [if_neg (by assumption)] at h'
  exact ⟨by rw [h.1, h'.1], by rw [h.2.1, h'.2.1], by rw [h.2.2, h'.2.2]⟩
theorem ApartS.code {s1 : Int} {N1 O1 : LL} {s2 : Int} {N2 O2 : LL} {sy : Int} {v : List Int} {b : Bool} {r : Int} (h : ApartS s1 N1 O1 s2 N2 O2 sy v b r) : r = 0 ∨ r = 1 := by
 unfold ApartS at h
 split at h
 ·exact .inl h.2
 ·exact .inr h.2.2
theorem one_step {W : World} {base : Nat} (hb : base ≤ W.heap.size) (p : P4) : Kd.R k95 95 (W.alloc (.cells #[.int .i64 p.a, .int .i64 p.b, .int .i64 p.sym, .int .i64 p.from_] 95)) base (fun _ => True) (.slice (some ⟨W.heap.size, 0, none⟩) 1 1) ([p].map toS) :=
 ⟨fun k hk => trivial, [.int .i64 p.a, .int .i64 p.b, .int .i64 p.sym, .int .i64 p.from_], ⟨rfl, .inr ⟨W.heap.size, 1, #[.int .i64 p.a, .int .i64 p.b, .int .i64 p.sym, .int .i64 p.from_], rfl, hb, heap_alloc_new _ _, Nat.le_refl _, by simp [maxLen], rfl, rfl⟩⟩, by
  refine ⟨rfl, fun j q hj => ?_⟩
  cases j with
  | zero =>
   simp only [List.map_cons, List.map_nil, List.getElem?_cons_zero, Option.some.injEq] at hj
   subst hj
   exact k95_mkM _ _ _ (toS p)
  | succ j => simp at hj⟩
end Go.Proofs.YtfonajakaimnoaaDoor.C13

namespace Go.Proofs.YtfonajakaimnoaaDoor.C13
open Go.RowKit Go.Proofs.YtfonajakaimnoaaDoorW.PrintWords Go.Proofs.YtfonajakaimnoaaDoorW.PrintLast Go.Proofs.YtfonajakaimnoaaDoorW.PrintMore Go.Proofs.YtfonajakaimnoaaDoor.Lib Lent Go.Proofs.YtfonajakaimnoaaDoor.Fn Go.Proofs.YtfonajakaimnoaaDoor.C11 Go.Proofs.YtfonajakaimnoaaDoor.Lend Go.Proofs.YtfonajakaimnoaaDoor.C14
set_option linter.unusedVariables false
set_option linter.unusedSimpArgs false
attribute [local go_sem] max2_int min2_int max_two min_two max_three min_three max_four min_four
def ap.T10 : Bool × List (List Nat × List Nat) := (true, [([], []), ([0], [0]), ([], []), ([2], [2]), ([1, 3], [1, 3]), ([4], [4]), ([], []), ([6], [6]), ([], []), ([8], [8]), ([7, 9], [7, 9]), ([10], [10]), ([5, 11], [5, 11]), ([12], [12])])
def ap.B10 : List Nat := [0, 1, 0, 4, 15, 31, 0, 64, 0, 256, 960, 1984, 4095, 8191]
theorem ap.tab10 : rtab .any (opsOf Tryd.f13 10) = ap.T10 := by kernel_rfl
theorem ap.bits10 : waitsOk ap.T10.2 ap.B10 = true := by kernel_rfl
def ap.T15 : Bool × List (List Nat × List Nat) := (true, [([], []), ([0], [0]), ([], []), ([2], [2]), ([1, 3], [1, 3]), ([4], [4]), ([], []), ([5, 6], [5, 6]), ([7], [7]), ([], []), ([9], [9]), ([], []), ([11], [11]), ([10, 12], [10, 12]), ([13], [13]), ([], []), ([14, 15], [14, 15]), ([16], [16]), ([8, 17], [8, 17]), ([], []), ([19, 18, 0, 1, 2, 3, 4, 5, 6, 7, 8, 9, 10, 11, 12, 13, 14, 15, 16, 17, 18, 19], [18, 19])])
def ap.B15 : List Nat := [0, 1, 0, 4, 15, 31, 0, 127, 255, 0, 512, 0, 2048, 7680, 15872, 0, 65024, 130560, 262143, 0, 1048575]
theorem ap.tab15 : rtab .any (opsOf Tryd.f13 15) = ap.T15 := by kernel_rfl
theorem ap.bits15 : waitsOk ap.T15.2 ap.B15 = true := by kernel_rfl
theorem info95' : (Tryd.prog.info? 95).map (fun i => (i.zero, i.size, i.bytes)) = some (some (.agg #[.int .i64 0, .int .i64 0, .int .i64 0, .int .i64 0]), 4, 32) := by kernel_rfl
theorem AP.set {w : World} {CA CB : Array Value} {bm : Nat} {v : Value} {st mt : List P4} {W : World} {b2 : Nat} {cs : Array Value} (h : AP w CA CB bm v st mt W) (hb : W.heap[b2]? = some (.cells cs 93 (0, 0))) (ho : w.heap.size + 2 ≤ b2) (j : Nat) (u : Value) : AP w CA CB bm v st mt (W.setCell ⟨b2, j, none⟩ u) := by
 obtain ⟨es, clock, he, _⟩ := h.map
 refine ⟨h.below.setCell (by show w.heap.size ≤ b2; omega) _, (Below.heap_setCell W ⟨b2, j, none⟩ u _ (by show w.heap.size ≠ b2; omega)).trans h.xa, (Below.heap_setCell W ⟨b2, j, none⟩ u _ (by show w.heap.size + 1 ≠ b2; omega)).trans h.xb, Kd.R_set h.steps hb (by decide) j u, h.map.move (Below.heap_setCell W ⟨b2, j, none⟩ u _ (fun e => ?_)), h.o⟩
 have e' : bm = b2 := e
 subst e'
 rw [hb] at he
 cases he
theorem wf_of {x : Int} {n : Nat} (h : 0 ≤ x ∧ x < (n : Int)) (hn : n ≤ 1048576) : (Lit.int .i64 x).wf = true := WalkArith.wf_i64 (by omega)
theorem rowAt {N : LL} {sn na : Nat} (h : RowsOk sn N) (ha : na < N.length) {k : Nat} (hk : k < sn) : ∃ X, N[na]? = some X ∧ X.length = sn ∧ X[k]? = some (getI N na k) := by
 have hr := h N[na] (List.getElem_mem ha)
 refine ⟨N[na], List.getElem?_eq_getElem ha, hr.1, ?_⟩
 unfold getI
 rw [Int.toNat_natCast, Int.toNat_natCast, show N.getD na [] = N[na] by rw [List.getD_eq_getElem?_getD, List.getElem?_eq_getElem ha]; rfl]
 rw [List.getD_eq_getElem?_getD, List.getElem?_eq_getElem (by omega)]
 rfl
theorem ApR.no {N1 O1 N2 O2 : LL} {sy : Nat} {s1 s2 : Int} {i : Nat} (h : ∀ j < i, j < (stAt N1 N2 sy s1 s2 j).length ∧ diffP O1 O2 ((stAt N1 N2 sy s1 s2 j).getD j z4) = false) (he : i = (stAt N1 N2 sy s1 s2 i).length) : ApR N1 O1 N2 O2 sy s1 s2 [] false :=
 ⟨i, h, .inr ⟨he, rfl, rfl⟩⟩
theorem ApR.yes {N1 O1 N2 O2 : LL} {sy : Nat} {s1 s2 : Int} {i : Nat} (h : ∀ j < i, j < (stAt N1 N2 sy s1 s2 j).length ∧ diffP O1 O2 ((stAt N1 N2 sy s1 s2 j).getD j z4) = false) (hl : i < (stAt N1 N2 sy s1 s2 i).length) (hd : diffP O1 O2 ((stAt N1 N2 sy s1 s2 i).getD i z4) = true) : ApR N1 O1 N2 O2 sy s1 s2 (way (stAt N1 N2 sy s1 s2 i) i) true :=
 ⟨i, h, .inl ⟨hl, hd, rfl, rfl⟩⟩
def ApPost (w : World) (N1 O1 N2 O2 : LL) (sn m1 m2 : Nat) (e : Ending) (w' : World) : Prop :=
 ∃ (v : Value) (word : List Int) (b : Bool), e = .returned (.tuple #[v, .bool b, .nilIface]) ∧ Kd.R kI 3 w' w.heap.size (fun _ => True) v word ∧ Below w.heap.size w w' ∧ ApR N1 O1 N2 O2 sn m1 m2 word b
theorem ApPost.mk {w w' : World} {N1 O1 N2 O2 : LL} {sn m1 m2 : Nat} {e : Ending} (v : Value) (word : List Int) (b : Bool) (h1 : e = .returned (.tuple #[v, .bool b, .nilIface])) (h2 : Kd.R kI 3 w' w.heap.size (fun _ => True) v word) (h3 : Below w.heap.size w w') (h4 : ApR N1 O1 N2 O2 sn m1 m2 word b) : ApPost w N1 O1 N2 O2 sn m1 m2 e w' := ⟨v, word, b, h1, h2, h3, h4⟩
set_option maxHeartbeats 8000000 in
set_option maxRecDepth 100000 in
theorem apart_ok_calls {m1 m2 sn : Nat} {A0 : Option Addr} {c0 : Nat} {N1 : LL} {A1 : Option Addr} {c1 : Nat} {O1 : LL} {A2 : Option Addr} {c2 : Nat} {N2 : LL} {A3 : Option Addr} {c3 : Nat} {O2 : LL} {w : World}
  (h1 : Mc A0 c0 N1 A1 c1 O1 w) (h2 : Mc A2 c2 N2 A3 c3 O2 w) (hm1 : mayB m1 N1 O1 sn = true) (hm2 : mayB m2 N2 O2 sn = true) (hb : N1.length ≤ 1048576 ∧ N2.length ≤ 1048576) :
  Calls Tryd.prog 13 #[.agg #[.int .i64 (m1 : Nat), .slice A0 N1.length c0, .slice A1 O1.length c1], .agg #[.int .i64 (m2 : Nat), .slice A2 N2.length c2, .slice A3 O2.length c3], .int .i64 sn] w (ApPost w N1 O1 N2 O2 sn m1 m2) := by
 have hu := Tryd.underlying24
 have hu2 := Tryd.underlying93
 have hu3 := Tryd.underlying95
 have hmm := @run_makeMap Tryd.prog
 obtain ⟨_, _, ho1, _, hs1, hr1⟩ := may_open hm1
 obtain ⟨_, _, ho2, _, hs2, hr2⟩ := may_open hm2
 rw [Int.toNat_natCast] at hr1 hr2
 have hsb : sn ≤ 9223372036854775807 := by
  have hm : m1 < N1.length := by omega
  have q1 := rows_bnd h1.n.1 N1[m1] (List.getElem_mem hm)
  have q2 := (hr1 N1[m1] (List.getElem_mem hm)).1
  omega
 have HR := Aside0.mk (And.intro hr1 hr2)
 have HS : Aside0 ((m1 < N1.length ∧ O1.length = N1.length) ∧ m2 < N2.length ∧ O2.length = N2.length) := ⟨⟨⟨by omega, ho1⟩, by omega, ho2⟩⟩
 have HM := Aside0.mk (And.intro hm1 hm2)
 have H1 := Aside0.mk h1
 have H2 := Aside0.mk h2
 have HN := Aside0.mk hb
 obtain ⟨M, hM⟩ : ∃ M, M = N1.length * N2.length := ⟨_, rfl⟩
 have HMM : Aside0 (M ≤ 1099511627776) := ⟨by rw [hM]; exact Nat.mul_le_mul hb.1 hb.2⟩
 have HMe := Aside0.mk hM
 clear ho1 ho2 hs1 hs2 hr1 hr2 hm1 hm2 h1 h2 hb hM
 go_enter Tryd.func13, Tryd.ntmps13
 go_wp2_with fail
 have HB : Aside0 (Below w.heap.size w ((w.alloc (.cells #[.int .i64 (m1 : Nat), .slice A0 N1.length c0, .slice A1 O1.length c1] 24)).alloc (.cells #[.int .i64 (m2 : Nat), .slice A2 N2.length c2, .slice A3 O2.length c3] 24))) := ⟨below_alloc (below_alloc (Below.refl w.heap.size w) _) _⟩
 have HXA : Aside0 (((w.alloc (.cells #[.int .i64 (m1 : Nat), .slice A0 N1.length c0, .slice A1 O1.length c1] 24)).alloc (.cells #[.int .i64 (m2 : Nat), .slice A2 N2.length c2, .slice A3 O2.length c3] 24)).heap[w.heap.size]? = some (.cells #[.int .i64 (m1 : Nat), .slice A0 N1.length c0, .slice A1 O1.length c1] 24 (0, 0))) := ⟨by rw [heap_alloc_old _ _ (by simp)]; exact heap_alloc_new _ _⟩
 have HXB : Aside0 (((w.alloc (.cells #[.int .i64 (m1 : Nat), .slice A0 N1.length c0, .slice A1 O1.length c1] 24)).alloc (.cells #[.int .i64 (m2 : Nat), .slice A2 N2.length c2, .slice A3 O2.length c3] 24)).heap[w.heap.size + 1]? = some (.cells #[.int .i64 (m2 : Nat), .slice A2 N2.length c2, .slice A3 O2.length c3] 24 (0, 0))) := ⟨by have := heap_alloc_new (w.alloc (.cells #[.int .i64 (m1 : Nat), .slice A0 N1.length c0, .slice A1 O1.length c1] 24)) (.cells #[.int .i64 (m2 : Nat), .slice A2 N2.length c2, .slice A3 O2.length c3] 24); simpa using this⟩
 refine (mayBe_calls (H1.out.below HB.out) sn).mono ?_
 rintro e w1 ⟨he, hb⟩
 rw [HM.out.1] at he
 subst he
 replace HXA := Aside0.mk ((hb.block _ (blk_lt HXA.out)).trans HXA.out)
 replace HXB := Aside0.mk ((hb.block _ (blk_lt HXB.out)).trans HXB.out)
 replace HB := Aside0.mk (below_step HB.out hb)
 clear hb
 have y0 : w1.cell? ⟨w.heap.size + 1, 0, none⟩ = some (.int .i64 m2) := (blk_cell HXB.out 0).trans rfl
 have y1 : w1.cell? ⟨w.heap.size + 1, 1, none⟩ = some (.slice A2 N2.length c2) := (blk_cell HXB.out 1).trans rfl
 have y2 : w1.cell? ⟨w.heap.size + 1, 2, none⟩ = some (.slice A3 O2.length c3) := (blk_cell HXB.out 2).trans rfl
 go_wp2_with fail
 refine (mayBe_calls (H2.out.below HB.out) sn).mono ?_
 rintro e w2 ⟨he, hb⟩
 rw [HM.out.2] at he
 subst he
 replace HXA := Aside0.mk ((hb.block _ (blk_lt HXA.out)).trans HXA.out)
 replace HXB := Aside0.mk ((hb.block _ (blk_lt HXB.out)).trans HXB.out)
 replace HB := Aside0.mk (below_step HB.out hb)
 clear hb y0 y1 y2
 have x0 : w2.cell? ⟨w.heap.size, 0, none⟩ = some (.int .i64 m1) := (blk_cell HXA.out 0).trans rfl
 have y0 : w2.cell? ⟨w.heap.size + 1, 0, none⟩ = some (.int .i64 m2) := (blk_cell HXB.out 0).trans rfl
 go_upto_region 5 with fail
 have HS0 := Aside0.mk (one_step (W := w2.alloc (.cells #[.int .i64 m1, .int .i64 m2] 93)) (base := w.heap.size) (by have := HB.out.size; simp; omega) ⟨m1, m2, 0, -1⟩)
 rw [show (w2.alloc (.cells #[.int .i64 m1, .int .i64 m2] 93)).heap.size = w2.heap.size + 1 by simp] at HS0
 have HT0 : Aside0 (((w2.alloc (.cells #[.int .i64 m1, .int .i64 m2] 93)).alloc (.cells #[.int .i64 m1, .int .i64 m2, .int .i64 0, .int .i64 (-1)] 95)).heap[w2.heap.size]? = some (.cells #[.int .i64 m1, .int .i64 m2] 93 (0, 0))) := ⟨by rw [heap_alloc_old _ _ (by simp)]; exact heap_alloc_new _ _⟩
 have hb := below_alloc (below_alloc (Below.refl w2.heap.size w2) (.cells #[.int .i64 m1, .int .i64 m2] 93)) (.cells #[.int .i64 m1, .int .i64 m2, .int .i64 0, .int .i64 (-1)] 95)
 replace HXA := Aside0.mk ((hb.block _ (blk_lt HXA.out)).trans HXA.out)
 replace HXB := Aside0.mk ((hb.block _ (blk_lt HXB.out)).trans HXB.out)
 replace HB := Aside0.mk (below_step HB.out hb)
 clear hb x0 y0
 generalize World.alloc _ _ = w3 at HS0 HT0 HXA HXB HB ⊢
 have z0 : (w3.alloc (.map #[] 0)).cell? ⟨w2.heap.size, 0, none⟩ = some (.int .i64 m1) := (blk_cell (blk_alloc HT0.out _) 0).trans rfl
 have z1 : (w3.alloc (.map #[] 0)).cell? ⟨w2.heap.size, 1, none⟩ = some (.int .i64 m2) := (blk_cell (blk_alloc HT0.out _) 1).trans rfl
 have HP0 : Aside0 (AP w #[.int .i64 (m1 : Nat), .slice A0 N1.length c0, .slice A1 O1.length c1] #[.int .i64 (m2 : Nat), .slice A2 N2.length c2, .slice A3 O2.length c3] w3.heap.size (.slice (some ⟨w2.heap.size + 1, 0, none⟩) 1 1) [⟨m1, m2, 0, -1⟩] [] (w3.alloc (.map #[] 0))) :=
  ⟨⟨below_alloc HB.out _, blk_alloc HXA.out _, blk_alloc HXB.out _, Kd.R_alloc HS0.out _, (MapIs_made w3 _ _ _).congr (fun x v => ⟨fun h => h.elim, fun ⟨j, p, hj, _⟩ => by simp at hj⟩), by have := blk_lt HXB.out; omega⟩⟩
 obtain ⟨ky, hky⟩ := keyTwo (a := m1) (b := m2) (wf_of ⟨by omega, by have := HS.out.1.1; omega⟩ HN.out.1) (wf_of ⟨by omega, by have := HS.out.2.1; omega⟩ HN.out.2)
 obtain ⟨w4, hrun, hmap, hoth, hsz, hgr⟩ := HP0.out.map.store (val := .int .i64 0) lawTwo Tryd.underlying97 (by unfold maxLen; simp) hky (plainElem_int Tryd.underlying3 (by decide)) (fun v ⟨j, p, hj, _⟩ => by simp at hj)
 have HP := Aside0.mk (HP0.out.put (a := m1) (b := m2) (s := 0) (f := -1) hmap hoth hgr)
 clear hky hmap hoth hsz hgr HP0 HS0 HB HXA HXB
 go_upto_region 6 with fail
 clear z0 z1 hrun
 generalize w3.heap.size = bm at HP ⊢
 go_wp2_with fail
 go_loopg [10, 12] M (fun gg v10 v12 wr => ∃ i : Nat, M - i ≤ gg ∧ v12 = .int .i64 i ∧ Aside0 (AP w #[.int .i64 (m1 : Nat), .slice A0 N1.length c0, .slice A1 O1.length c1] #[.int .i64 (m2 : Nat), .slice A2 N2.length c2, .slice A3 O2.length c3] bm v10 (stAt N1 N2 sn m1 m2 i) (stAt N1 N2 sn m1 m2 i) wr) ∧ Aside0 (Good N1.length N2.length (stAt N1 N2 sn m1 m2 i)) ∧ Aside0 (i ≤ (stAt N1 N2 sn m1 m2 i).length) ∧ Aside0 (∀ j < i, j < (stAt N1 N2 sn m1 m2 j).length ∧ diffP O1 O2 ((stAt N1 N2 sn m1 m2 j).getD j z4) = false))
 case atStart => exact ⟨0, by omega, rfl, HP, ⟨good_start ⟨by omega, by have := HS.out.1.1; omega⟩ ⟨by omega, by have := HS.out.2.1; omega⟩⟩, ⟨Nat.zero_le _⟩, ⟨fun j hj => absurd hj (Nat.not_lt_zero _)⟩⟩
 case round =>
  clear HP
  obtain ⟨i, hg, rfl, HP, HG, HI, HD⟩ := hrel
  obtain ⟨wo, rfl⟩ : ∃ wo : World, wo = wr := ⟨_, rfl⟩
  obtain ⟨A10, c10, e10, hc10, hC10⟩ := Kd.R_reads HP.out.steps
  rw [List.length_map] at e10
  subst e10
  obtain ⟨st, hst⟩ : ∃ st, st = stAt N1 N2 sn m1 m2 i := ⟨_, rfl⟩
  have HST := Aside0.mk hst
  rw [← hst] at HP HG HI hC10 hc10
  rw [← hst]
  clear hst
  have HBN := Aside0.mk HG.out.bound
  by_cases hlt : i < st.length
  ·have hltz : (i : Int) < (st.length : Int) := by omega
   obtain ⟨ad, rfl, k0, k1, _, _⟩ := at_T95 hC10 (i : Int) (by omega) (by rw [List.length_map]; omega)
   rw [rdS, Int.toNat_natCast] at k0 k1
   have hga := good_at HG.out hlt
   obtain ⟨na, hna⟩ : ∃ na : Nat, (st.getD i z4).a = na := ⟨(st.getD i z4).a.toNat, by omega⟩
   obtain ⟨nb, hnb⟩ : ∃ nb : Nat, (st.getD i z4).b = nb := ⟨(st.getD i z4).b.toNat, by omega⟩
   have k0' : wo.cell? (ad.add (i * 4)) = some (.int .i64 na) := by rw [k0]; show some (Value.int .i64 (st.getD i z4).a) = _; rw [hna]
   have k1' : wo.cell? ⟨(ad.add (i * 4)).block, (ad.add (i * 4)).off + 1, none⟩ = some (.int .i64 nb) := by rw [k1]; show some (Value.int .i64 (st.getD i z4).b) = _; rw [hnb]
   have HNA : Aside0 ((st.getD i z4).a = na ∧ (st.getD i z4).b = nb ∧ na < N1.length ∧ nb < N2.length) := ⟨⟨hna, hnb, by omega, by omega⟩⟩
   clear k0 k1 hga hna hnb hC10 hc10
   obtain ⟨X, hXg⟩ : ∃ X, O1[na]? = some X := ⟨_, List.getElem?_eq_getElem (by have := HNA.out.2.2.1; have := HS.out.1.2; omega)⟩
   obtain ⟨Y, hYg⟩ : ∃ Y, O2[nb]? = some Y := ⟨_, List.getElem?_eq_getElem (by have := HNA.out.2.2.2; have := HS.out.2.2; omega)⟩
   obtain ⟨a1, AX, cX, rfl, hx1, hx2, hx3⟩ := list_at H1.out.o.1 na X hXg
   obtain ⟨a3, AY, cY, rfl, hy1, hy2, hy3⟩ := list_at H2.out.o.1 nb Y hYg
   have HX := Aside0.mk (And.intro hx1 (And.intro hx2 hx3))
   have HY := Aside0.mk (And.intro hy1 (And.intro hy2 hy3))
   obtain ⟨q, hq⟩ : ∃ q, q = decide (X = Y) := ⟨_, rfl⟩
   have HQ := Aside0.mk hq
   have HDF : Aside0 (diffP O1 O2 (st.getD i z4) = !q) := ⟨by
    unfold diffP
    rw [HNA.out.1, HNA.out.2.1, Int.toNat_natCast, Int.toNat_natCast, List.getD_eq_getElem?_getD, List.getD_eq_getElem?_getD, hXg, hYg, hq]
    rfl⟩
   clear hx1 hx2 hx3 hy1 hy2 hy3 hq hXg hYg
   have b1 : (na : Int) < (O1.length : Int) := by have := HNA.out.2.2.1; have := HS.out.1.2; omega
   have b2 : (nb : Int) < (O2.length : Int) := by have := HNA.out.2.2.2; have := HS.out.2.2; omega
   go_upto_region 10 with fail
   have HXB2 := Aside0.mk HP.out.xb
   have HT := Aside0.mk (heap_alloc_new wo (.cells #[.int .i64 na, .int .i64 nb] 93))
   replace HP := Aside0.mk (HP.out.step (below_alloc (Below.refl _ wo) (.cells #[.int .i64 na, .int .i64 nb] 93)))
   have HBT : Aside0 (w.heap.size + 2 ≤ wo.heap.size) := ⟨by have := blk_lt HXB2.out; omega⟩
   clear k0' k1'
   generalize World.alloc wo _ = w5 at HP HT ⊢
   generalize wo.heap.size = bt at HT HBT ⊢
   have hb := below_drew (Below.refl w5.heap.size w5)
   replace HT := Aside0.mk ((hb.block _ (blk_lt HT.out)).trans HT.out)
   replace HP := Aside0.mk (HP.out.step hb)
   clear hb
   refine start_ (n := 14) (S := fun w' => w'.cell? ⟨w.heap.size, 2, none⟩ = some (.slice (some a1) O1.length c1) ∧ w'.cell? ⟨w.heap.size + 1, 2, none⟩ = some (.slice (some a3) O2.length c3) ∧ w'.cell? ⟨bt, 0, none⟩ = some (.int .i64 na) ∧ w'.cell? ⟨bt, 1, none⟩ = some (.int .i64 nb) ∧ w'.cell? (a1.add na) = some (.slice AX X.length cX) ∧ w'.cell? (a3.add nb) = some (.slice AY Y.length cY)) (ds := []) #[false, false, false, false, false, false, false, false, false, false, false, false, false, false] (by kernel_rfl) rfl rfl ⟨(blk_cell HP.out.xa 2).trans rfl, (blk_cell HP.out.xb 2).trans rfl, (blk_cell HT.out 0).trans rfl, (blk_cell HT.out 1).trans rfl, pw_cell_below HP.out.below HX.out.1, pw_cell_below HP.out.below HY.out.1⟩ (fun hHeld => ?_)
   refine with_tabW ap.tab10 ap.bits10 (fun HT_ HW_ => ?_)
   generalize w5.drew = wn at HP HT hHeld ⊢
   refine pure_ (i := 0) (N := some 51) (v := ?_) (a' := ?_) #[true, false, false, false, false, false, false, false, false, false, false, false, false, false] rfl rfl (any_of HT_.out (by kernel_rfl)) (fun _ _ _ h => h) (Or.inl ⟨by rfl, ?_⟩) ?_ ?_
   rotate_left
   ·intro w'
    go_simp
    with_reducible rfl
   rotate_left
   ·simp only [Act.put, List.setIfInBounds_toArray, List.set_cons_zero, List.set_cons_succ, i64_w, i32_w]
    rfl
   refine take_ (i := 1) (N := some 52) (v := ?_) (a' := ?_) #[true, true, false, false, false, false, false, false, false, false, false, false, false, false] rfl rfl (take_ofW HT_.out HW_.out (by kernel_rfl)) (fun _ _ _ h => h) (Or.inl ⟨by rfl, ?_⟩) hHeld ?_ ?_
   rotate_left
   ·rintro w' ⟨s0, s1, s2, s3, s4, s5⟩
    go_simp
    with_reducible rfl
   rotate_left
   ·simp only [Act.put, List.setIfInBounds_toArray, List.set_cons_zero, List.set_cons_succ, i64_w, i32_w]
    rfl
   refine pure_ (i := 2) (N := some 53) (v := ?_) (a' := ?_) #[true, true, true, false, false, false, false, false, false, false, false, false, false, false] rfl rfl (any_of HT_.out (by kernel_rfl)) (fun _ _ _ h => h) (Or.inl ⟨by rfl, ?_⟩) ?_ ?_
   rotate_left
   ·intro w'
    go_simp
    with_reducible rfl
   rotate_left
   ·simp only [Act.put, List.setIfInBounds_toArray, List.set_cons_zero, List.set_cons_succ, i64_w, i32_w]
    rfl
   refine take_ (i := 3) (N := some 54) (v := ?_) (a' := ?_) #[true, true, true, true, false, false, false, false, false, false, false, false, false, false] rfl rfl (take_ofW HT_.out HW_.out (by kernel_rfl)) (fun _ _ _ h => h) (Or.inl ⟨by rfl, ?_⟩) hHeld ?_ ?_
   rotate_left
   ·rintro w' ⟨s0, s1, s2, s3, s4, s5⟩
    go_simp
    with_reducible rfl
   rotate_left
   ·simp only [Act.put, List.setIfInBounds_toArray, List.set_cons_zero, List.set_cons_succ, i64_w, i32_w]
    rfl
   refine pure_ (i := 4) (N := some 55) (v := ?_) (a' := ?_) #[true, true, true, true, true, false, false, false, false, false, false, false, false, false] rfl rfl (any_of HT_.out (by kernel_rfl)) (fun _ _ _ h => h) (Or.inl ⟨by rfl, ?_⟩) ?_ ?_
   rotate_left
   ·intro w'
    go_simp
    with_reducible rfl
   rotate_left
   ·simp only [Act.put, List.setIfInBounds_toArray, List.set_cons_zero, List.set_cons_succ, i64_w, i32_w]
    rfl
   refine take_ (i := 5) (N := some 56) (v := ?_) (a' := ?_) #[true, true, true, true, true, true, false, false, false, false, false, false, false, false] rfl rfl (take_ofW HT_.out HW_.out (by kernel_rfl)) (fun _ _ _ h => h) (Or.inl ⟨by rfl, ?_⟩) hHeld ?_ ?_
   rotate_left
   ·rintro w' ⟨s0, s1, s2, s3, s4, s5⟩
    go_simp
    with_reducible rfl
   rotate_left
   ·simp only [Act.put, List.setIfInBounds_toArray, List.set_cons_zero, List.set_cons_succ, i64_w, i32_w]
    rfl
   refine pure_ (i := 6) (N := some 57) (v := ?_) (a' := ?_) #[true, true, true, true, true, true, true, false, false, false, false, false, false, false] rfl rfl (any_of HT_.out (by kernel_rfl)) (fun _ _ _ h => h) (Or.inl ⟨by rfl, ?_⟩) ?_ ?_
   rotate_left
   ·intro w'
    go_simp
    with_reducible rfl
   rotate_left
   ·simp only [Act.put, List.setIfInBounds_toArray, List.set_cons_zero, List.set_cons_succ, i64_w, i32_w]
    rfl
   refine take_ (i := 7) (N := some 58) (v := ?_) (a' := ?_) #[true, true, true, true, true, true, true, true, false, false, false, false, false, false] rfl rfl (take_ofW HT_.out HW_.out (by kernel_rfl)) (fun _ _ _ h => h) (Or.inl ⟨by rfl, ?_⟩) hHeld ?_ ?_
   rotate_left
   ·rintro w' ⟨s0, s1, s2, s3, s4, s5⟩
    go_simp
    with_reducible rfl
   rotate_left
   ·simp only [Act.put, List.setIfInBounds_toArray, List.set_cons_zero, List.set_cons_succ, i64_w, i32_w]
    rfl
   refine pure_ (i := 8) (N := some 59) (v := ?_) (a' := ?_) #[true, true, true, true, true, true, true, true, true, false, false, false, false, false] rfl rfl (any_of HT_.out (by kernel_rfl)) (fun _ _ _ h => h) (Or.inl ⟨by rfl, ?_⟩) ?_ ?_
   rotate_left
   ·intro w'
    go_simp
    with_reducible rfl
   rotate_left
   ·simp only [Act.put, List.setIfInBounds_toArray, List.set_cons_zero, List.set_cons_succ, i64_w, i32_w]
    rfl
   refine take_ (i := 9) (N := some 60) (v := ?_) (a' := ?_) #[true, true, true, true, true, true, true, true, true, true, false, false, false, false] rfl rfl (take_ofW HT_.out HW_.out (by kernel_rfl)) (fun _ _ _ h => h) (Or.inl ⟨by rfl, ?_⟩) hHeld ?_ ?_
   rotate_left
   ·rintro w' ⟨s0, s1, s2, s3, s4, s5⟩
    go_simp
    with_reducible rfl
   rotate_left
   ·simp only [Act.put, List.setIfInBounds_toArray, List.set_cons_zero, List.set_cons_succ, i64_w, i32_w]
    rfl
   refine pure_ (i := 10) (N := some 61) (v := ?_) (a' := ?_) #[true, true, true, true, true, true, true, true, true, true, true, false, false, false] rfl rfl (any_of HT_.out (by kernel_rfl)) (fun _ _ _ h => h) (Or.inl ⟨by rfl, ?_⟩) ?_ ?_
   rotate_left
   ·intro w'
    go_simp
    with_reducible rfl
   rotate_left
   ·simp only [Act.put, List.setIfInBounds_toArray, List.set_cons_zero, List.set_cons_succ, i64_w, i32_w]
    rfl
   refine take_ (i := 11) (N := some 62) (v := ?_) (a' := ?_) #[true, true, true, true, true, true, true, true, true, true, true, true, false, false] rfl rfl (take_ofW HT_.out HW_.out (by kernel_rfl)) (fun _ _ _ h => h) (Or.inl ⟨by rfl, ?_⟩) hHeld ?_ ?_
   rotate_left
   ·rintro w' ⟨s0, s1, s2, s3, s4, s5⟩
    go_simp
    with_reducible rfl
   rotate_left
   ·simp only [Act.put, List.setIfInBounds_toArray, List.set_cons_zero, List.set_cons_succ, i64_w, i32_w]
    rfl
   refine one_ (i := 12) (N := some 63) #[true, true, true, true, true, true, true, true, true, true, true, true, true, false] rfl rfl (one_of HT_.out (by kernel_rfl)) (by decide) (fun K hK => ?_)
   refine goes_ Tryd.func65 (by kernel_rfl) rfl #[.slice AX X.length cX, .slice AY Y.length cY] (by rfl) rfl rfl (by (try simp only [List.map_toArray, List.map_cons, List.map_nil]); first | done | rfl) ?_
   refine (equal_c (Kd.C_below HX.out.2.2 HP.out.below) HX.out.2.1 (Kd.C_below HY.out.2.2 HP.out.below) HY.out.2.1).mono ?_
   rintro e wm ⟨he, hb⟩
   rw [← HQ.out] at he
   subst he
   refine ⟨_, rfl, ?_⟩
   skip
   replace HT := Aside0.mk ((hb.block _ (blk_lt HT.out)).trans HT.out)
   replace HP := Aside0.mk (HP.out.step hb)
   obtain ⟨wn, rfl⟩ : ∃ wn, wn = wm := ⟨_, rfl⟩
   refine hK.out _ _ ⟨(blk_cell HP.out.xa 2).trans rfl, (blk_cell HP.out.xb 2).trans rfl, (blk_cell HT.out 0).trans rfl, (blk_cell HT.out 1).trans rfl, pw_cell_below HP.out.below HX.out.1, pw_cell_below HP.out.below HY.out.1⟩ (fun hHeld => ?_)
   clear hK K hb
   refine norm_ (a' := ?_) ?_ ?_
   rotate_left
   ·show Act.put _ (some 63) _ = _
    simp only [Act.put, List.setIfInBounds_toArray, List.set_cons_zero, List.set_cons_succ, i64_w, i32_w]
    rfl
   refine pure_ (i := 13) (N := some 64) (v := ?_) (a' := ?_) #[true, true, true, true, true, true, true, true, true, true, true, true, true, true] rfl rfl (any_of HT_.out (by kernel_rfl)) (fun _ _ _ h => h) (Or.inl ⟨by rfl, ?_⟩) ?_ ?_
   rotate_left
   ·intro w'
    go_simp
    with_reducible rfl
   rotate_left
   ·simp only [Act.put, List.setIfInBounds_toArray, List.set_cons_zero, List.set_cons_succ, i64_w, i32_w]
    rfl
   refine done_ (done_of HT_.out (by kernel_rfl)) ?_
   clear hHeld b1 b2
   cases q with
   | false =>
    go_wp2_with fail
    have hrs := Kd.R_reads' HP.out.steps
    refine (way_c HG.out hlt (by have := HBN.out; have := HMe.out; have := HMM.out; omega) hrs.2.2 (by rw [List.length_map]; exact hrs.2.1)).mono ?_
    rintro e w6 ⟨v, rfl, hr, hb⟩
    have HRR := Aside0.mk (Kd.R_lower hr HP.out.below.size)
    have HB6 := Aside0.mk (below_step HP.out.below hb)
    have HWY : Aside0 (ApR N1 O1 N2 O2 sn m1 m2 (way st i) true) := ⟨by
     have hl := hlt
     have hd := HDF.out
     rw [HST.out] at hl hd ⊢
     exact ApR.yes (i := i) HD.out hl hd⟩
    clear hr hb hrs
    go_wp2_with fail
    go_ret3
    exact ApPost.mk v _ true rfl HRR.out HB6.out HWY.out
   | true =>
    clear HX HY HQ
    go_wp2_with fail
    go_loopg [10, 69] sn (fun gg v10 v69 wr => ∃ k : Nat, k ≤ sn ∧ sn - k ≤ gg ∧ v69 = .int .i64 k ∧ Aside0 (AP w #[.int .i64 (m1 : Nat), .slice A0 N1.length c0, .slice (some a1) O1.length c1] #[.int .i64 (m2 : Nat), .slice A2 N2.length c2, .slice (some a3) O2.length c3] bm v10 (extK N1 N2 i na nb st k) (extK N1 N2 i na nb st k) wr) ∧ Aside0 (wr.heap[bt]? = some (.cells #[.int .i64 na, .int .i64 nb] 93 (0, 0))))
    case atStart => exact ⟨0, Nat.zero_le _, by omega, rfl, HP, HT⟩
    case round =>
     clear HP HT
     obtain ⟨k, hk, hg2, rfl, HP, HT⟩ := hrel
     obtain ⟨wq, rfl⟩ : ∃ wq : World, wq = wr := ⟨_, rfl⟩
     by_cases hlt2 : k < sn
     ·have hltz2 : (k : Int) < (sn : Int) := by omega
      obtain ⟨sk, hsk⟩ : ∃ sk, sk = extK N1 N2 i na nb st k := ⟨_, rfl⟩
      have HSK := Aside0.mk hsk
      have HGK : Aside0 (Good N1.length N2.length sk) := ⟨by rw [hsk]; exact HG.out.ext HR.out.1 HR.out.2 rfl rfl hlt ⟨by omega, by have := HNA.out.2.2.1; omega⟩ ⟨by omega, by have := HNA.out.2.2.2; omega⟩ k hk⟩
      rw [← hsk] at HP
      clear hsk
      have HKN := Aside0.mk HGK.out.bound
      obtain ⟨A11, c11, e11, hc11, _⟩ := Kd.R_reads HP.out.steps
      rw [List.length_map] at e11
      subst e11
      clear hc11
      obtain ⟨X, hXg, hXl, hXk⟩ := rowAt HR.out.1 HNA.out.2.2.1 hlt2
      obtain ⟨Y, hYg, hYl, hYk⟩ := rowAt HR.out.2 HNA.out.2.2.2 hlt2
      obtain ⟨a0, AX, cX, rfl, hx1, hx2, hx3⟩ := list_at H1.out.n.1 na X hXg
      obtain ⟨a2, AY, cY, rfl, hy1, hy2, hy3⟩ := list_at H2.out.n.1 nb Y hYg
      obtain ⟨ax, rfl, hx4⟩ := int_at hx3 k _ hXk
      obtain ⟨ay, rfl, hy4⟩ := int_at hy3 k _ hYk
      have hbx := HR.out.1.get (a := na) (k := k) (by omega) (by have := HNA.out.2.2.1; omega) hlt2
      have hby := HR.out.2.get (a := nb) (k := k) (by omega) (by have := HNA.out.2.2.2; omega) hlt2
      rw [hXl] at hx1
      rw [hYl] at hy1
      obtain ⟨x, hx⟩ : ∃ x, x = getI N1 na k := ⟨_, rfl⟩
      obtain ⟨y, hy⟩ : ∃ y, y = getI N2 nb k := ⟨_, rfl⟩
      rw [← hx] at hx4 hbx
      rw [← hy] at hy4 hby
      have HXY := Aside0.mk (And.intro hx hy)
      have HX := Aside0.mk (And.intro hx1 hx4)
      have HY := Aside0.mk (And.intro hy1 hy4)
      obtain ⟨ky, hky⟩ := keyTwo (a := x) (b := y) (wf_of hbx HN.out.1) (wf_of hby HN.out.2)
      have HKY := Aside0.mk hky
      clear hXg hXl hXk hYg hYl hYk hx1 hx2 hx3 hx4 hy1 hy2 hy3 hy4 hbx hby hx hy hky
      have b1 : (na : Int) < (N1.length : Int) := by have := HNA.out.2.2.1; omega
      have b2 : (nb : Int) < (N2.length : Int) := by have := HNA.out.2.2.2; omega
      go_upto_region 15 with fail
      have hb := below_drew (Below.refl wq.heap.size wq)
      replace HT := Aside0.mk ((hb.block _ (blk_lt HT.out)).trans HT.out)
      replace HP := Aside0.mk (HP.out.step hb)
      clear hb
      refine start_ (n := 21) (S := fun w' => w'.cell? ⟨w.heap.size, 1, none⟩ = some (.slice (some a0) N1.length c0) ∧ w'.cell? ⟨w.heap.size + 1, 1, none⟩ = some (.slice (some a2) N2.length c2) ∧ w'.cell? ⟨bt, 0, none⟩ = some (.int .i64 na) ∧ w'.cell? ⟨bt, 1, none⟩ = some (.int .i64 nb) ∧ w'.cell? (a0.add na) = some (.slice (some ax) sn cX) ∧ w'.cell? (a2.add nb) = some (.slice (some ay) sn cY) ∧ w'.cell? (ax.add k) = some (.int .i64 x) ∧ w'.cell? (ay.add k) = some (.int .i64 y)) (ds := [20]) #[false, false, false, false, false, false, false, false, false, false, false, false, false, false, false, false, false, false, false, false, false] (by kernel_rfl) rfl rfl ⟨(blk_cell HP.out.xa 1).trans rfl, (blk_cell HP.out.xb 1).trans rfl, (blk_cell HT.out 0).trans rfl, (blk_cell HT.out 1).trans rfl, pw_cell_below HP.out.below HX.out.1, pw_cell_below HP.out.below HY.out.1, pw_cell_below HP.out.below HX.out.2, pw_cell_below HP.out.below HY.out.2⟩ (fun hHeld => ?_)
      refine with_tabW ap.tab15 ap.bits15 (fun HT_ HW_ => ?_)
      generalize wq.drew = wn at HP HT hHeld ⊢
      have HBT : Aside0 (w.heap.size + 2 ≤ wn.heap.size) := ⟨by have := blk_lt HP.out.xb; omega⟩
      have HBL := Aside0.mk (blk_lt HT.out)
      refine pure_ (i := 0) (N := some 72) (v := ?_) (a' := ?_) #[true, false, false, false, false, false, false, false, false, false, false, false, false, false, false, false, false, false, false, false, false] rfl rfl (any_of HT_.out (by kernel_rfl)) (fun _ _ _ h => h) (Or.inl ⟨by rfl, ?_⟩) ?_ ?_
      rotate_left
      ·intro w'
       go_simp
       with_reducible rfl
      rotate_left
      ·simp only [Act.put, List.setIfInBounds_toArray, List.set_cons_zero, List.set_cons_succ, i64_w, i32_w]
       rfl
      refine take_ (i := 1) (N := some 73) (v := ?_) (a' := ?_) #[true, true, false, false, false, false, false, false, false, false, false, false, false, false, false, false, false, false, false, false, false] rfl rfl (take_ofW HT_.out HW_.out (by kernel_rfl)) (fun _ _ _ h => h) (Or.inl ⟨by rfl, ?_⟩) hHeld ?_ ?_
      rotate_left
      ·rintro w' ⟨s0, s1, s2, s3, s4, s5, s6, s7⟩
       go_simp
       with_reducible rfl
      rotate_left
      ·simp only [Act.put, List.setIfInBounds_toArray, List.set_cons_zero, List.set_cons_succ, i64_w, i32_w]
       rfl
      refine pure_ (i := 2) (N := some 74) (v := ?_) (a' := ?_) #[true, true, true, false, false, false, false, false, false, false, false, false, false, false, false, false, false, false, false, false, false] rfl rfl (any_of HT_.out (by kernel_rfl)) (fun _ _ _ h => h) (Or.inl ⟨by rfl, ?_⟩) ?_ ?_
      rotate_left
      ·intro w'
       go_simp
       with_reducible rfl
      rotate_left
      ·simp only [Act.put, List.setIfInBounds_toArray, List.set_cons_zero, List.set_cons_succ, i64_w, i32_w]
       rfl
      refine take_ (i := 3) (N := some 75) (v := ?_) (a' := ?_) #[true, true, true, true, false, false, false, false, false, false, false, false, false, false, false, false, false, false, false, false, false] rfl rfl (take_ofW HT_.out HW_.out (by kernel_rfl)) (fun _ _ _ h => h) (Or.inl ⟨by rfl, ?_⟩) hHeld ?_ ?_
      rotate_left
      ·rintro w' ⟨s0, s1, s2, s3, s4, s5, s6, s7⟩
       go_simp
       with_reducible rfl
      rotate_left
      ·simp only [Act.put, List.setIfInBounds_toArray, List.set_cons_zero, List.set_cons_succ, i64_w, i32_w]
       rfl
      refine pure_ (i := 4) (N := some 76) (v := ?_) (a' := ?_) #[true, true, true, true, true, false, false, false, false, false, false, false, false, false, false, false, false, false, false, false, false] rfl rfl (any_of HT_.out (by kernel_rfl)) (fun _ _ _ h => h) (Or.inl ⟨by rfl, ?_⟩) ?_ ?_
      rotate_left
      ·intro w'
       go_simp
       with_reducible rfl
      rotate_left
      ·simp only [Act.put, List.setIfInBounds_toArray, List.set_cons_zero, List.set_cons_succ, i64_w, i32_w]
       rfl
      refine take_ (i := 5) (N := some 77) (v := ?_) (a' := ?_) #[true, true, true, true, true, true, false, false, false, false, false, false, false, false, false, false, false, false, false, false, false] rfl rfl (take_ofW HT_.out HW_.out (by kernel_rfl)) (fun _ _ _ h => h) (Or.inl ⟨by rfl, ?_⟩) hHeld ?_ ?_
      rotate_left
      ·rintro w' ⟨s0, s1, s2, s3, s4, s5, s6, s7⟩
       go_simp
       with_reducible rfl
      rotate_left
      ·simp only [Act.put, List.setIfInBounds_toArray, List.set_cons_zero, List.set_cons_succ, i64_w, i32_w]
       rfl
      refine pure_ (i := 6) (N := some 78) (v := ?_) (a' := ?_) #[true, true, true, true, true, true, true, false, false, false, false, false, false, false, false, false, false, false, false, false, false] rfl rfl (any_of HT_.out (by kernel_rfl)) (fun _ _ _ h => h) (Or.inl ⟨by rfl, ?_⟩) ?_ ?_
      rotate_left
      ·intro w'
       go_simp
       with_reducible rfl
      rotate_left
      ·simp only [Act.put, List.setIfInBounds_toArray, List.set_cons_zero, List.set_cons_succ, i64_w, i32_w]
       rfl
      refine pure_ (i := 7) (N := some 79) (v := ?_) (a' := ?_) #[true, true, true, true, true, true, true, true, false, false, false, false, false, false, false, false, false, false, false, false, false] rfl rfl (any_of HT_.out (by kernel_rfl)) (fun _ _ _ h => h) (Or.inl ⟨by rfl, ?_⟩) ?_ ?_
      rotate_left
      ·intro w'
       go_simp
       with_reducible rfl
      rotate_left
      ·simp only [Act.put, List.setIfInBounds_toArray, List.set_cons_zero, List.set_cons_succ, i64_w, i32_w]
       rfl
      refine take_ (i := 8) (N := some 80) (v := ?_) (a' := ?_) #[true, true, true, true, true, true, true, true, true, false, false, false, false, false, false, false, false, false, false, false, false] rfl rfl (take_ofW HT_.out HW_.out (by kernel_rfl)) (fun _ _ _ h => h) (Or.inl ⟨by rfl, ?_⟩) hHeld ?_ ?_
      rotate_left
      ·rintro w' ⟨s0, s1, s2, s3, s4, s5, s6, s7⟩
       go_simp
       with_reducible rfl
      rotate_left
      ·simp only [Act.put, List.setIfInBounds_toArray, List.set_cons_zero, List.set_cons_succ, i64_w, i32_w]
       rfl
      refine pure_ (i := 9) (N := some 81) (v := ?_) (a' := ?_) #[true, true, true, true, true, true, true, true, true, true, false, false, false, false, false, false, false, false, false, false, false] rfl rfl (any_of HT_.out (by kernel_rfl)) (fun _ _ _ h => h) (Or.inl ⟨by rfl, ?_⟩) ?_ ?_
      rotate_left
      ·intro w'
       go_simp
       with_reducible rfl
      rotate_left
      ·simp only [Act.put, List.setIfInBounds_toArray, List.set_cons_zero, List.set_cons_succ, i64_w, i32_w]
       rfl
      refine take_ (i := 10) (N := some 82) (v := ?_) (a' := ?_) #[true, true, true, true, true, true, true, true, true, true, true, false, false, false, false, false, false, false, false, false, false] rfl rfl (take_ofW HT_.out HW_.out (by kernel_rfl)) (fun _ _ _ h => h) (Or.inl ⟨by rfl, ?_⟩) hHeld ?_ ?_
      rotate_left
      ·rintro w' ⟨s0, s1, s2, s3, s4, s5, s6, s7⟩
       go_simp
       with_reducible rfl
      rotate_left
      ·simp only [Act.put, List.setIfInBounds_toArray, List.set_cons_zero, List.set_cons_succ, i64_w, i32_w]
       rfl
      refine pure_ (i := 11) (N := some 83) (v := ?_) (a' := ?_) #[true, true, true, true, true, true, true, true, true, true, true, true, false, false, false, false, false, false, false, false, false] rfl rfl (any_of HT_.out (by kernel_rfl)) (fun _ _ _ h => h) (Or.inl ⟨by rfl, ?_⟩) ?_ ?_
      rotate_left
      ·intro w'
       go_simp
       with_reducible rfl
      rotate_left
      ·simp only [Act.put, List.setIfInBounds_toArray, List.set_cons_zero, List.set_cons_succ, i64_w, i32_w]
       rfl
      refine take_ (i := 12) (N := some 84) (v := ?_) (a' := ?_) #[true, true, true, true, true, true, true, true, true, true, true, true, true, false, false, false, false, false, false, false, false] rfl rfl (take_ofW HT_.out HW_.out (by kernel_rfl)) (fun _ _ _ h => h) (Or.inl ⟨by rfl, ?_⟩) hHeld ?_ ?_
      rotate_left
      ·rintro w' ⟨s0, s1, s2, s3, s4, s5, s6, s7⟩
       go_simp
       with_reducible rfl
      rotate_left
      ·simp only [Act.put, List.setIfInBounds_toArray, List.set_cons_zero, List.set_cons_succ, i64_w, i32_w]
       rfl
      refine pure_ (i := 13) (N := some 85) (v := ?_) (a' := ?_) #[true, true, true, true, true, true, true, true, true, true, true, true, true, true, false, false, false, false, false, false, false] rfl rfl (any_of HT_.out (by kernel_rfl)) (fun _ _ _ h => h) (Or.inl ⟨by rfl, ?_⟩) ?_ ?_
      rotate_left
      ·intro w'
       go_simp
       with_reducible rfl
      rotate_left
      ·simp only [Act.put, List.setIfInBounds_toArray, List.set_cons_zero, List.set_cons_succ, i64_w, i32_w]
       rfl
      refine take_ (i := 14) (N := some 86) (v := ?_) (a' := ?_) #[true, true, true, true, true, true, true, true, true, true, true, true, true, true, true, false, false, false, false, false, false] rfl rfl (take_ofW HT_.out HW_.out (by kernel_rfl)) (fun _ _ _ h => h) (Or.inl ⟨by rfl, ?_⟩) hHeld ?_ ?_
      rotate_left
      ·rintro w' ⟨s0, s1, s2, s3, s4, s5, s6, s7⟩
       go_simp
       with_reducible rfl
      rotate_left
      ·simp only [Act.put, List.setIfInBounds_toArray, List.set_cons_zero, List.set_cons_succ, i64_w, i32_w]
       rfl
      refine pure_ (i := 15) (N := some 87) (v := ?_) (a' := ?_) #[true, true, true, true, true, true, true, true, true, true, true, true, true, true, true, true, false, false, false, false, false] rfl rfl (any_of HT_.out (by kernel_rfl)) (fun _ _ _ h => h) (Or.inl ⟨by rfl, ?_⟩) ?_ ?_
      rotate_left
      ·intro w'
       go_simp
       with_reducible rfl
      rotate_left
      ·simp only [Act.put, List.setIfInBounds_toArray, List.set_cons_zero, List.set_cons_succ, i64_w, i32_w]
       rfl
      refine pure_ (i := 16) (N := some 88) (v := ?_) (a' := ?_) #[true, true, true, true, true, true, true, true, true, true, true, true, true, true, true, true, true, false, false, false, false] rfl rfl (any_of HT_.out (by kernel_rfl)) (fun _ _ _ h => h) (Or.inl ⟨by rfl, ?_⟩) ?_ ?_
      rotate_left
      ·intro w'
       go_simp
       with_reducible rfl
      rotate_left
      ·simp only [Act.put, List.setIfInBounds_toArray, List.set_cons_zero, List.set_cons_succ, i64_w, i32_w]
       rfl
      refine take_ (i := 17) (N := some 89) (v := ?_) (a' := ?_) #[true, true, true, true, true, true, true, true, true, true, true, true, true, true, true, true, true, true, false, false, false] rfl rfl (take_ofW HT_.out HW_.out (by kernel_rfl)) (fun _ _ _ h => h) (Or.inl ⟨by rfl, ?_⟩) hHeld ?_ ?_
      rotate_left
      ·rintro w' ⟨s0, s1, s2, s3, s4, s5, s6, s7⟩
       go_simp
       with_reducible rfl
      rotate_left
      ·simp only [Act.put, List.setIfInBounds_toArray, List.set_cons_zero, List.set_cons_succ, i64_w, i32_w]
       rfl
      refine pure_ (i := 18) (N := some 90) (v := ?_) (a' := ?_) #[true, true, true, true, true, true, true, true, true, true, true, true, true, true, true, true, true, true, true, false, false] rfl rfl (any_of HT_.out (by kernel_rfl)) (fun _ _ _ h => h) (Or.inl ⟨by rfl, ?_⟩) ?_ ?_
      rotate_left
      ·intro w'
       go_simp
       with_reducible rfl
      rotate_left
      ·simp only [Act.put, List.setIfInBounds_toArray, List.set_cons_zero, List.set_cons_succ, i64_w, i32_w]
       rfl
      refine one_ (i := 19) (N := some 15) #[true, true, true, true, true, true, true, true, true, true, true, true, true, true, true, true, true, true, true, true, false] rfl rfl (one_of HT_.out (by kernel_rfl)) (by decide) (fun K hK => ?_)
      refine value_ (w1 := wn.alloc (.cells #[.int .i64 0, .int .i64 0] 93)) (v := .pointer (some ⟨wn.heap.size, 0, none⟩)) (by rfl) rfl ?_ ?_
      ·go_simp
      have HQt := Aside0.mk (heap_alloc_new wn (.cells #[.int .i64 0, .int .i64 0] 93))
      have hb := below_alloc (Below.refl wn.heap.size wn) (.cells #[.int .i64 0, .int .i64 0] 93)
      replace HT := Aside0.mk ((hb.block _ (blk_lt HT.out)).trans HT.out)
      replace HP := Aside0.mk (HP.out.step hb)
      have HO2 : Aside0 (w.heap.size + 2 ≤ wn.heap.size) := ⟨by have := HBT.out; omega⟩
      have HNE : Aside0 (bt ≠ wn.heap.size) := ⟨by have := HBL.out; omega⟩
      clear hb HBT HBL
      generalize World.alloc wn _ = wp at HQt HT HP ⊢
      generalize wn.heap.size = bt2 at HQt HO2 HNE ⊢
      refine hK.out _ _ ⟨(blk_cell HP.out.xa 1).trans rfl, (blk_cell HP.out.xb 1).trans rfl, (blk_cell HT.out 0).trans rfl, (blk_cell HT.out 1).trans rfl, pw_cell_below HP.out.below HX.out.1, pw_cell_below HP.out.below HY.out.1, pw_cell_below HP.out.below HX.out.2, pw_cell_below HP.out.below HY.out.2⟩ (fun hHeld => ?_)
      clear hK K
      refine norm_ (a' := ?_) ?_ ?_
      rotate_left
      ·show Act.put _ (some 15) _ = _
       simp only [Act.put, List.setIfInBounds_toArray, List.set_cons_zero, List.set_cons_succ, i64_w, i32_w]
       rfl
      refine last_ (i := 20) (N := none) #[true, true, true, true, true, true, true, true, true, true, true, true, true, true, true, true, true, true, true, true, true] rfl rfl (one_of HT_.out (by kernel_rfl)) (by decide) (fun K hK => ?_)
      have z0 : wp.cell? ⟨bt2, 0, none⟩ = some (.int .i64 0) := (blk_cell HQt.out 0).trans rfl
      have z1 : wp.cell? ⟨bt2, 1, none⟩ = some (.int .i64 0) := (blk_cell HQt.out 1).trans rfl
      have y0 := blk_frozen HQt.out 0
      have y1 := blk_frozen HQt.out 1
      refine skip_ (w1 := ?_) (by rfl) rfl ?_ ?_
      rotate_left
      ·go_simp
       rfl
      refine hK.out _ _ ?_
      clear hK K z0 z1 y0 y1
      refine done_ (done_of HT_.out (by kernel_rfl)) ?_
      clear hHeld b1 b2
      go_upto_region 16 with fail
      replace HP := Aside0.mk ((HP.out.set HQt.out HO2.out 0 (.int .i64 x)).set (blk_put HQt.out 0 (.int .i64 x) rfl) HO2.out 1 (.int .i64 y))
      replace HT := Aside0.mk (blk_far (p := ⟨bt2, 1, none⟩) (blk_far (p := ⟨bt2, 0, none⟩) HT.out (by have := HNE.out; simpa using this) (.int .i64 x)) (by have := HNE.out; simpa using this) (.int .i64 y))
      replace HQt := Aside0.mk (blk_put (blk_put HQt.out 0 (.int .i64 x) rfl) 1 (.int .i64 y) rfl)
      generalize World.setCell _ _ _ = w6 at HP HT HQt ⊢
      have q0 : w6.cell? ⟨bt2, 0, none⟩ = some (.int .i64 x) := (blk_cell HQt.out 0).trans rfl
      have q1 : w6.cell? ⟨bt2, 1, none⟩ = some (.int .i64 y) := (blk_cell HQt.out 1).trans rfl
      have hkb : 0 ≤ (i : Int) := by omega
      rcases HP.out.map.look true lawTwo Tryd.underlying97 (zeroInt _) HKY.out with ⟨hrun, hno⟩ | ⟨v, hv, hrun⟩
      ·have hmet : metP x y sk = false := by
        cases hmm2 : metP x y sk with
        | false => rfl
        | true => obtain ⟨v, hv⟩ := keysP_yes hmm2; exact absurd hv (hno v)
       obtain ⟨w7, hrun2, hmap, hoth, hsz, hgr⟩ := HP.out.map.store (val := .int .i64 sk.length) lawTwo Tryd.underlying97 (by unfold maxLen; have := HKN.out; have := HMe.out; have := HMM.out; omega) HKY.out (plainElem_int Tryd.underlying3 (WalkArith.wf_i64 (by have := HKN.out; have := HMe.out; have := HMM.out; omega))) hno
       have HPn := Aside0.mk (HP.out.put (a := x) (b := y) (s := k) (f := i) hmap hoth hgr)
       have HTn := Aside0.mk ((hoth bt (fun e => by obtain ⟨es, clock, he, _⟩ := HP.out.map; have h := HT.out; rw [e, he] at h; cases h)).trans HT.out)
       have HQn := Aside0.mk ((hoth bt2 (fun e => by obtain ⟨es, clock, he, _⟩ := HP.out.map; have h := HQt.out; rw [e, he] at h; cases h)).trans HQt.out)
       have HEX : Aside0 (extK N1 N2 i na nb st (k + 1) = sk ++ [⟨x, y, k, i⟩]) := ⟨by
        show addK N1 N2 i na nb k (extK N1 N2 i na nb st k) = _
        rw [← HSK.out, addK, ← HXY.out.1, ← HXY.out.2, if_neg (by rw [hmet]; simp)]⟩
       clear hmap hoth hsz hgr hno hmet
       simp only [if_true] at hrun
       go_upto_region 19 with fail
       clear hrun hrun2 q0 q1 HP HT HQt
       have q0 : w7.cell? ⟨bt2, 0, none⟩ = some (.int .i64 x) := (blk_cell HQn.out 0).trans rfl
       have q1 : w7.cell? ⟨bt2, 1, none⟩ = some (.int .i64 y) := (blk_cell HQn.out 1).trans rfl
       go_wp2_with ((with_reducible refine gate_builtin (b := .append) (xs := #[.tmp 103, .tmp 108]) rfl ?_); at_builtin; refine Kd.R_append k95 (w0 := w) w.heap.size rfl (.tmp 103) (.tmp 108) 96 95 (.agg #[.int .i64 0, .int .i64 0, .int .i64 0, .int .i64 0]) 32 rfl Tryd.underlying96 info95' rfl (by decide) (by omega) (.slice A11 sk.length c11) (sk.map toS) (toS ⟨x, y, k, i⟩) [.int .i64 x, .int .i64 y, .int .i64 k, .int .i64 i] (fun _ => True) (fun _ => False) rfl rfl ?aP (fun _ hk => hk.elim) ?aF ?aO ?aB ?aS ?aL ?_; (case aP => exact k95_mkM _ _ _ (toS ⟨x, y, k, i⟩)); (case aB => exact HPn.out.below); (case aF => exact (fun _ _ => trivial)); (case aO => exact HPn.out.steps); (case aS => exact HPn.out.below.size); (case aL => rw [List.length_map]; have := HKN.out; have := HMe.out; have := HMM.out; omega); intro v8 w8 hoz hbz hgz hatz; have HP8 := Aside0.mk (HPn.out.grown (st' := sk ++ [⟨x, y, k, i⟩]) (by rw [List.map_append]; exact hoz) hbz hgz); have HT8 := Aside0.mk ((hgz.block _ (blk_lt HTn.out) (Kd.R_ne HPn.out.steps HTn.out (by decide))).trans HTn.out); clear hoz hbz hgz hatz)
       go_roundg (sn - (k + 1))
       case measure => omega
       case rel => exact ⟨k + 1, by omega, by omega, by go_num, ⟨by rw [HEX.out]; exact HP8.out⟩, HT8⟩
      ·obtain ⟨jv, hjv⟩ : ∃ jv : Nat, v = .int .i64 jv := by obtain ⟨j, p, _, _, e⟩ := hv; exact ⟨j, e⟩
       have hmet : metP x y sk = true := by
        cases hmm2 : metP x y sk with
        | true => rfl
        | false => exact absurd hv (keysP_no hmm2 v)
       have HEX : Aside0 (extK N1 N2 i na nb st (k + 1) = sk) := ⟨by
        show addK N1 N2 i na nb k (extK N1 N2 i na nb st k) = _
        rw [← HSK.out, addK, ← HXY.out.1, ← HXY.out.2, if_pos hmet]⟩
       subst hjv
       simp only [if_true] at hrun
       clear hv hmet
       go_wp2_with fail
       go_roundg (sn - (k + 1))
       case measure => omega
       case rel => exact ⟨k + 1, by omega, by omega, by go_num, ⟨by rw [HEX.out]; exact HP.out⟩, HT⟩
     ·have hltz2 : ¬ (k : Int) < (sn : Int) := by omega
      obtain rfl : sn = k := by omega
      have HNX : Aside0 (stAt N1 N2 sn m1 m2 (i + 1) = extK N1 N2 i na nb st sn) := ⟨by
       show extK N1 N2 i ((stAt N1 N2 sn m1 m2 i).getD i z4).a ((stAt N1 N2 sn m1 m2 i).getD i z4).b (stAt N1 N2 sn m1 m2 i) sn = _
       rw [← HST.out, HNA.out.1, HNA.out.2.1]⟩
      have HGN : Aside0 (Good N1.length N2.length (stAt N1 N2 sn m1 m2 (i + 1))) := ⟨by rw [HNX.out]; exact HG.out.ext HR.out.1 HR.out.2 rfl rfl hlt ⟨by omega, by have := HNA.out.2.2.1; omega⟩ ⟨by omega, by have := HNA.out.2.2.2; omega⟩ sn (Nat.le_refl _)⟩
      have HLN : Aside0 (i + 1 ≤ (stAt N1 N2 sn m1 m2 (i + 1)).length) := ⟨by rw [HNX.out]; have := extK_len N1 N2 i na nb st sn; omega⟩
      have HDN : Aside0 (∀ j < i + 1, j < (stAt N1 N2 sn m1 m2 j).length ∧ diffP O1 O2 ((stAt N1 N2 sn m1 m2 j).getD j z4) = false) := ⟨fun j hj => by
       rcases Nat.lt_or_ge j i with hji | hji
       ·exact HD.out j hji
       ·obtain rfl : j = i := by omega
        rw [← HST.out]
        exact ⟨hlt, by rw [HDF.out]; rfl⟩⟩
      have HBM : Aside0 (i < M) := ⟨by have := HBN.out; have := HMe.out; omega⟩
      have hi2 : i < 1099511627776 := by have := HBM.out; have := HMM.out; omega
      go_wp2_with fail
      go_roundg (M - (i + 1))
      case measure => have := HBM.out; omega
      case rel => exact ⟨i + 1, by omega, by go_num, ⟨by rw [HNX.out]; exact HP.out⟩, HGN, HLN, HDN⟩
  ·have hltz : ¬ (i : Int) < (st.length : Int) := by omega
   go_wp2_with fail
   go_ret3
   exact ApPost.mk _ [] false rfl (Kd.R_nil _ _ _ _ _) HP.out.below (ApR.no (i := i) HD.out (by rw [← HST.out]; have := HI.out; omega))
end Go.Proofs.YtfonajakaimnoaaDoor.C13

namespace Go.Proofs.YtfonajakaimnoaaDoor.C13
open Go.RowKit Go.Proofs.YtfonajakaimnoaaDoorW.PrintWords Go.Proofs.YtfonajakaimnoaaDoorW.PrintLast Go.Proofs.YtfonajakaimnoaaDoorW.PrintMore Go.Proofs.YtfonajakaimnoaaDoor.Lib Lent Go.Proofs.YtfonajakaimnoaaDoor.Fn Go.Proofs.YtfonajakaimnoaaDoor.C11 Go.Proofs.YtfonajakaimnoaaDoor.Lend Go.Proofs.YtfonajakaimnoaaDoor.C14
set_option linter.unusedVariables false
set_option linter.unusedSimpArgs false
attribute [local go_sem] max2_int min2_int max_two min_two max_three min_three max_four min_four
def rp.T10 : Bool × List (List Nat × List Nat) := (true, [([], []), ([0], [0]), ([], []), ([], []), ([2, 3], [2, 3]), ([4], [4]), ([5], [5]), ([1, 6], [1, 6]), ([7], [7]), ([], []), ([9], [9]), ([], []), ([], []), ([11, 12], [11, 12]), ([13], [13]), ([14], [14]), ([10, 15], [10, 15]), ([16], [16]), ([8, 17], [8, 17]), ([18, 18, 0, 1, 2, 3, 4, 5, 6, 7, 8, 9, 10, 11, 12, 13, 14, 15, 16, 17, 18], [18])])
def rp.B10 : List Nat := [0, 1, 0, 0, 12, 28, 60, 127, 255, 0, 512, 0, 0, 6144, 14336, 30720, 65024, 130560, 262143, 524287]
theorem rp.tab10 : rtab .any (opsOf Tryd.f15 10) = rp.T10 := by kernel_rfl
theorem rp.bits10 : waitsOk rp.T10.2 rp.B10 = true := by kernel_rfl
def rp.T16 : Bool × List (List Nat × List Nat) := (true, [([], []), ([0], [0]), ([], []), ([], []), ([2, 3], [2, 3]), ([4], [4]), ([5], [5]), ([1, 6], [1, 6]), ([7], [7]), ([], []), ([8, 9], [8, 9]), ([10], [10]), ([], []), ([12], [12]), ([], []), ([], []), ([14, 15], [14, 15]), ([16], [16]), ([17], [17]), ([13, 18], [13, 18]), ([19], [19]), ([], []), ([20, 21], [20, 21]), ([22], [22]), ([], []), ([], []), ([11, 23, 24, 25], [11, 23, 24, 25]), ([], []), ([27, 26, 0, 1, 2, 3, 4, 5, 6, 7, 8, 9, 10, 11, 12, 13, 14, 15, 16, 17, 18, 19, 20, 21, 22, 23, 24, 25, 26, 27], [26, 27])])
def rp.B16 : List Nat := [0, 1, 0, 0, 12, 28, 60, 127, 255, 0, 1023, 2047, 0, 4096, 0, 0, 49152, 114688, 245760, 520192, 1044480, 0, 4190208, 8384512, 0, 0, 67108863, 0, 268435455]
theorem rp.tab16 : rtab .any (opsOf Tryd.f15 16) = rp.T16 := by kernel_rfl
theorem rp.bits16 : waitsOk rp.T16.2 rp.B16 = true := by kernel_rfl
theorem info102' : (Tryd.prog.info? 102).map (fun i => (i.zero, i.size, i.bytes)) = some (some (.agg #[.int .i64 0, .int .i64 0, .int .i64 0, .int .i64 0]), 4, 32) := by kernel_rfl
def keysD (st : List P4) (x v : Value) : Prop := v = .bool true ∧ ∃ (j : Nat) (p : P4), st[j]? = some p ∧ x = .agg #[.int .i64 p.a, .int .i64 p.b]
theorem keysD_iff (st : List P4) (x : Value) : (∃ v, keysP st x v) ↔ keysD st x (.bool true) :=
 ⟨fun ⟨_, j, p, hj, e, _⟩ => ⟨rfl, j, p, hj, e⟩, fun ⟨_, j, p, hj, e⟩ => ⟨_, j, p, hj, e, rfl⟩⟩
theorem keysD_no {st : List P4} {a b : Int} (h : metP a b st = false) : ∀ v, ¬ keysD st (.agg #[.int .i64 a, .int .i64 b]) v := by
 rintro v ⟨_, j, p, hj, e⟩
 exact keysP_no h _ ⟨j, p, hj, e, rfl⟩
theorem keysD_yes {st : List P4} {a b : Int} (h : metP a b st = true) : keysD st (.agg #[.int .i64 a, .int .i64 b]) (.bool true) := (keysD_iff _ _).1 (keysP_yes h)
theorem keysD_snoc (st : List P4) (a b s f : Int) (x v : Value) : (x = .agg #[.int .i64 a, .int .i64 b] ∧ v = .bool true) ∨ keysD st x v ↔ keysD (st ++ [⟨a, b, s, f⟩]) x v := by
 constructor
 ·rintro (⟨rfl, rfl⟩ | ⟨rfl, h⟩)
  ·exact (keysD_iff _ _).1 ⟨_, (keysP_snoc st a b s f _ _).1 (.inl ⟨rfl, rfl⟩)⟩
  ·obtain ⟨v, hv⟩ := (keysD_iff st x).2 ⟨rfl, h⟩
   exact (keysD_iff _ _).1 ⟨v, (keysP_snoc st a b s f _ _).1 (.inr hv)⟩
 ·rintro ⟨rfl, h⟩
  obtain ⟨v, hv⟩ := (keysD_iff _ x).2 ⟨rfl, h⟩
  rcases (keysP_snoc st a b s f _ _).2 hv with ⟨e, _⟩ | h
  ·exact .inl ⟨e, rfl⟩
  ·exact .inr ((keysD_iff _ _).1 ⟨v, h⟩)
noncomputable abbrev RB : RM := plainElem Tryd.prog 4
structure AD (w : World) (CA CB : Array Value) (bm : Nat) (v : Value) (st mt : List P4) (W : World) : Prop where
 below : Below w.heap.size w W
 xa : W.heap[w.heap.size]? = some (.cells CA 24 (0, 0))
 xb : W.heap[w.heap.size + 1]? = some (.cells CB 24 (0, 0))
 steps : Kd.R k102 102 W w.heap.size (fun _ => True) v (st.map toD)
 map : MapIs Tryd.prog 104 RB W bm mt.length (keysD mt)
 o : w.heap.size + 2 ≤ bm
section
variable {w : World} {CA CB : Array Value} {bm : Nat} {v : Value} {st mt : List P4} {W W' : World}
theorem AD.step (h : AD w CA CB bm v st mt W) (hb : Below W.heap.size W W') : AD w CA CB bm v st mt W' :=
 ⟨below_step h.below hb, (hb.block _ (blk_lt h.xa)).trans h.xa, (hb.block _ (blk_lt h.xb)).trans h.xb, Kd.R_below h.steps hb, h.map.move (hb.block _ h.map.lt), h.o⟩
theorem AD.put {a b s f : Int} (h : AD w CA CB bm v st mt W) (hm : MapIs Tryd.prog 104 RB W' bm (mt.length + 1) (fun x v => (x = .agg #[.int .i64 a, .int .i64 b] ∧ v = .bool true) ∨ keysD mt x v)) (ho : ∀ j, j ≠ bm → W'.heap[j]? = W.heap[j]?) (hg : W.grownBy W' (some bm)) : AD w CA CB bm v st (mt ++ [⟨a, b, s, f⟩]) W' := by
 obtain ⟨es, clock, he, _⟩ := h.map
 refine ⟨h.below.grown hg h.below.size (fun k hk => by cases hk; have := h.o; omega), (ho _ (by have := h.o; omega)).trans h.xa, (ho _ (by have := h.o; omega)).trans h.xb, ?_, ?_, h.o⟩
 ·refine Kd.R_mono (Kd.R_move (Kd.R_bound h.steps) (fun k hk => ho k ?_)) (fun _ _ => trivial)
  rintro rfl
  obtain ⟨_, _, _, q, _, cells, hc⟩ := hk
  rw [he] at hc
  cases hc
 ·have := hm.congr (keysD_snoc mt a b s f)
  rw [List.length_append, List.length_singleton]
  exact this
theorem AD.grown {v1 : Value} {st' : List P4} (h : AD w CA CB bm v st mt W) (hr : Kd.R k102 102 W' w.heap.size (fun _ => True) v1 (st'.map toD)) (hB : Below w.heap.size w W') (hg : W.grownBy W' v.ownBlock) : AD w CA CB bm v1 st' mt W' := by
 obtain ⟨es, clock, he, _⟩ := h.map
 have hty := fun k hk => own_typed (Kd.R_own h.steps).choose_spec k hk
 refine ⟨hB, (hg.block _ (blk_lt h.xa) (Kd.R_ne h.steps h.xa (by decide))).trans h.xa, (hg.block _ (blk_lt h.xb) (Kd.R_ne h.steps h.xb (by decide))).trans h.xb, hr, h.map.move (hg.block _ h.map.lt (fun e => ?_)), h.o⟩
 obtain ⟨cells, hc⟩ := hty bm e.symm
 rw [he] at hc
 cases hc
end
theorem one_two {W : World} {base : Nat} (hb : base ≤ W.heap.size) (p : P4) : Kd.R k102 102 (W.alloc (.cells #[.int .i64 p.a, .int .i64 p.b, .int .i64 p.from_, .int .i64 p.sym] 102)) base (fun _ => True) (.slice (some ⟨W.heap.size, 0, none⟩) 1 1) ([p].map toD) :=
 ⟨fun k hk => trivial, [.int .i64 p.a, .int .i64 p.b, .int .i64 p.from_, .int .i64 p.sym], ⟨rfl, .inr ⟨W.heap.size, 1, #[.int .i64 p.a, .int .i64 p.b, .int .i64 p.from_, .int .i64 p.sym], rfl, hb, heap_alloc_new _ _, Nat.le_refl _, by simp [maxLen], rfl, rfl⟩⟩, by
  refine ⟨rfl, fun j q hj => ?_⟩
  cases j with
  | zero =>
   simp only [List.map_cons, List.map_nil, List.getElem?_cons_zero, Option.some.injEq] at hj
   subst hj
   exact k102_mkM _ _ _ (toD p)
  | succ j => simp at hj⟩
def ApPostD (w : World) (N1 O1 N2 O2 : LL) (sn m1 m2 : Nat) (e : Ending) (w' : World) : Prop :=
 ∃ (v : Value) (word : List Int) (b : Bool), e = .returned (.tuple #[v, .bool b, .int .i64 0]) ∧ Kd.R kI 3 w' w.heap.size (fun _ => True) v word ∧ Below w.heap.size w w' ∧ ApR N1 O1 N2 O2 sn m1 m2 word b
theorem ApPostD.mk {w w' : World} {N1 O1 N2 O2 : LL} {sn m1 m2 : Nat} {e : Ending} (v : Value) (word : List Int) (b : Bool) (h1 : e = .returned (.tuple #[v, .bool b, .int .i64 0])) (h2 : Kd.R kI 3 w' w.heap.size (fun _ => True) v word) (h3 : Below w.heap.size w w') (h4 : ApR N1 O1 N2 O2 sn m1 m2 word b) : ApPostD w N1 O1 N2 O2 sn m1 m2 e w' := ⟨v, word, b, h1, h2, h3, h4⟩
theorem addK_get {N1 N2 : LL} {i : Nat} {pa pb : Int} {k : Nat} {st : List P4} {j : Nat} (h : j < st.length) : (addK N1 N2 i pa pb k st).getD j z4 = st.getD j z4 := by
 unfold addK
 split
 ·rfl
 ·rw [List.getD_eq_getElem?_getD, List.getElem?_append_left h, List.getD_eq_getElem?_getD]
theorem extK_get {N1 N2 : LL} {i : Nat} {pa pb : Int} {st : List P4} {j : Nat} (h : j < st.length) (k : Nat) : (extK N1 N2 i pa pb st k).getD j z4 = st.getD j z4 := by
 induction k with
 | zero => rfl
 | succ k ih =>
  show (addK N1 N2 i pa pb k (extK N1 N2 i pa pb st k)).getD j z4 = _
  rw [addK_get (Nat.lt_of_lt_of_le h (extK_len _ _ _ _ _ _ _)), ih]
set_option maxHeartbeats 8000000 in
set_option maxRecDepth 100000 in
theorem refApart_ok_calls {m1 m2 sn : Nat} {A0 : Option Addr} {c0 : Nat} {N1 : LL} {A1 : Option Addr} {c1 : Nat} {O1 : LL} {A2 : Option Addr} {c2 : Nat} {N2 : LL} {A3 : Option Addr} {c3 : Nat} {O2 : LL} {w : World}
  (h1 : Mc A0 c0 N1 A1 c1 O1 w) (h2 : Mc A2 c2 N2 A3 c3 O2 w) (hm1 : mayB m1 N1 O1 sn = true) (hm2 : mayB m2 N2 O2 sn = true) (hb : N1.length ≤ 1048576 ∧ N2.length ≤ 1048576) :
  Calls Tryd.prog 15 #[.agg #[.int .i64 (m1 : Nat), .slice A0 N1.length c0, .slice A1 O1.length c1], .agg #[.int .i64 (m2 : Nat), .slice A2 N2.length c2, .slice A3 O2.length c3], .int .i64 sn] w (ApPostD w N1 O1 N2 O2 sn m1 m2) := by
 have hu := Tryd.underlying24
 have hu2 := Tryd.underlying104
 have hu3 := Tryd.underlying102
 have hmm := @run_makeMap Tryd.prog
 obtain ⟨_, _, ho1, _, hs1, hr1⟩ := may_open hm1
 obtain ⟨_, _, ho2, _, hs2, hr2⟩ := may_open hm2
 rw [Int.toNat_natCast] at hr1 hr2
 have hsb : sn ≤ 9223372036854775807 := by
  have hm : m1 < N1.length := by omega
  have q1 := rows_bnd h1.n.1 N1[m1] (List.getElem_mem hm)
  have q2 := (hr1 N1[m1] (List.getElem_mem hm)).1
  omega
 have HR := Aside0.mk (And.intro hr1 hr2)
 have HS : Aside0 ((m1 < N1.length ∧ O1.length = N1.length) ∧ m2 < N2.length ∧ O2.length = N2.length) := ⟨⟨⟨by omega, ho1⟩, by omega, ho2⟩⟩
 have HM := Aside0.mk (And.intro hm1 hm2)
 have H1 := Aside0.mk h1
 have H2 := Aside0.mk h2
 have HN := Aside0.mk hb
 obtain ⟨M, hM⟩ : ∃ M, M = N1.length * N2.length := ⟨_, rfl⟩
 have HMM : Aside0 (M ≤ 1099511627776) := ⟨by rw [hM]; exact Nat.mul_le_mul hb.1 hb.2⟩
 have HMe := Aside0.mk hM
 clear ho1 ho2 hs1 hs2 hr1 hr2 hm1 hm2 h1 h2 hb hM
 go_enter Tryd.func15, Tryd.ntmps15
 go_wp2_with fail
 have HB : Aside0 (Below w.heap.size w ((w.alloc (.cells #[.int .i64 (m1 : Nat), .slice A0 N1.length c0, .slice A1 O1.length c1] 24)).alloc (.cells #[.int .i64 (m2 : Nat), .slice A2 N2.length c2, .slice A3 O2.length c3] 24))) := ⟨below_alloc (below_alloc (Below.refl w.heap.size w) _) _⟩
 have HXA : Aside0 (((w.alloc (.cells #[.int .i64 (m1 : Nat), .slice A0 N1.length c0, .slice A1 O1.length c1] 24)).alloc (.cells #[.int .i64 (m2 : Nat), .slice A2 N2.length c2, .slice A3 O2.length c3] 24)).heap[w.heap.size]? = some (.cells #[.int .i64 (m1 : Nat), .slice A0 N1.length c0, .slice A1 O1.length c1] 24 (0, 0))) := ⟨by rw [heap_alloc_old _ _ (by simp)]; exact heap_alloc_new _ _⟩
 have HXB : Aside0 (((w.alloc (.cells #[.int .i64 (m1 : Nat), .slice A0 N1.length c0, .slice A1 O1.length c1] 24)).alloc (.cells #[.int .i64 (m2 : Nat), .slice A2 N2.length c2, .slice A3 O2.length c3] 24)).heap[w.heap.size + 1]? = some (.cells #[.int .i64 (m2 : Nat), .slice A2 N2.length c2, .slice A3 O2.length c3] 24 (0, 0))) := ⟨by have := heap_alloc_new (w.alloc (.cells #[.int .i64 (m1 : Nat), .slice A0 N1.length c0, .slice A1 O1.length c1] 24)) (.cells #[.int .i64 (m2 : Nat), .slice A2 N2.length c2, .slice A3 O2.length c3] 24); simpa using this⟩
 refine (refMay_calls (H1.out.below HB.out) sn).mono ?_
 rintro e w1 ⟨he, hb⟩
 rw [HM.out.1] at he
 subst he
 replace HXA := Aside0.mk ((hb.block _ (blk_lt HXA.out)).trans HXA.out)
 replace HXB := Aside0.mk ((hb.block _ (blk_lt HXB.out)).trans HXB.out)
 replace HB := Aside0.mk (below_step HB.out hb)
 clear hb
 have y0 : w1.cell? ⟨w.heap.size + 1, 0, none⟩ = some (.int .i64 m2) := (blk_cell HXB.out 0).trans rfl
 have y1 : w1.cell? ⟨w.heap.size + 1, 1, none⟩ = some (.slice A2 N2.length c2) := (blk_cell HXB.out 1).trans rfl
 have y2 : w1.cell? ⟨w.heap.size + 1, 2, none⟩ = some (.slice A3 O2.length c3) := (blk_cell HXB.out 2).trans rfl
 go_wp2_with fail
 refine (refMay_calls (H2.out.below HB.out) sn).mono ?_
 rintro e w2 ⟨he, hb⟩
 rw [HM.out.2] at he
 subst he
 replace HXA := Aside0.mk ((hb.block _ (blk_lt HXA.out)).trans HXA.out)
 replace HXB := Aside0.mk ((hb.block _ (blk_lt HXB.out)).trans HXB.out)
 replace HB := Aside0.mk (below_step HB.out hb)
 clear hb y0 y1 y2
 have x0 : w2.cell? ⟨w.heap.size, 0, none⟩ = some (.int .i64 m1) := (blk_cell HXA.out 0).trans rfl
 have y0 : w2.cell? ⟨w.heap.size + 1, 0, none⟩ = some (.int .i64 m2) := (blk_cell HXB.out 0).trans rfl
 go_upto_region 6 with fail
 have HS0 := Aside0.mk (one_two (W := w2) (base := w.heap.size) HB.out.size ⟨m1, m2, 0, -1⟩)
 have hb := below_alloc (Below.refl w2.heap.size w2) (.cells #[.int .i64 m1, .int .i64 m2, .int .i64 (-1), .int .i64 0] 102)
 replace HXA := Aside0.mk ((hb.block _ (blk_lt HXA.out)).trans HXA.out)
 replace HXB := Aside0.mk ((hb.block _ (blk_lt HXB.out)).trans HXB.out)
 replace HB := Aside0.mk (below_step HB.out hb)
 clear hb x0 y0
 generalize World.alloc _ _ = w3 at HS0 HXA HXB HB ⊢
 have x0 : (w3.alloc (.map #[] 0)).cell? ⟨w.heap.size, 0, none⟩ = some (.int .i64 m1) := (blk_cell (blk_alloc HXA.out _) 0).trans rfl
 have y0 : (w3.alloc (.map #[] 0)).cell? ⟨w.heap.size + 1, 0, none⟩ = some (.int .i64 m2) := (blk_cell (blk_alloc HXB.out _) 0).trans rfl
 have HP0 : Aside0 (AD w #[.int .i64 (m1 : Nat), .slice A0 N1.length c0, .slice A1 O1.length c1] #[.int .i64 (m2 : Nat), .slice A2 N2.length c2, .slice A3 O2.length c3] w3.heap.size (.slice (some ⟨w2.heap.size, 0, none⟩) 1 1) [⟨m1, m2, 0, -1⟩] [] (w3.alloc (.map #[] 0))) :=
  ⟨⟨below_alloc HB.out _, blk_alloc HXA.out _, blk_alloc HXB.out _, Kd.R_alloc HS0.out _, (MapIs_made w3 _ _ _).congr (fun x v => ⟨fun h => h.elim, fun ⟨_, j, p, hj, _⟩ => by simp at hj⟩), by have := blk_lt HXB.out; omega⟩⟩
 obtain ⟨ky, hky⟩ := keyArr (a := m1) (b := m2) (wf_of ⟨by omega, by have := HS.out.1.1; omega⟩ HN.out.1) (wf_of ⟨by omega, by have := HS.out.2.1; omega⟩ HN.out.2)
 obtain ⟨w4, hrun, hmap, hoth, hsz, hgr⟩ := HP0.out.map.store (val := .bool true) lawArr Tryd.underlying105 (by unfold maxLen; simp) hky (plainElem_bool Tryd.underlying4 true) (fun v ⟨_, j, p, hj, _⟩ => by simp at hj)
 have HP := Aside0.mk (HP0.out.put (a := m1) (b := m2) (s := 0) (f := -1) hmap hoth hgr)
 clear hky hmap hoth hsz hgr HP0 HS0 HB HXA HXB
 go_upto_region 7 with fail
 clear x0 y0 hrun
 generalize w3.heap.size = bm at HP ⊢
 go_wp2_with fail
 go_loopg [11, 13] M (fun gg v10 v12 wr => ∃ i : Nat, M - i ≤ gg ∧ v12 = .int .i64 i ∧ Aside0 (AD w #[.int .i64 (m1 : Nat), .slice A0 N1.length c0, .slice A1 O1.length c1] #[.int .i64 (m2 : Nat), .slice A2 N2.length c2, .slice A3 O2.length c3] bm v10 (stAt N1 N2 sn m1 m2 i) (stAt N1 N2 sn m1 m2 i) wr) ∧ Aside0 (Good N1.length N2.length (stAt N1 N2 sn m1 m2 i)) ∧ Aside0 (i ≤ (stAt N1 N2 sn m1 m2 i).length) ∧ Aside0 (∀ j < i, j < (stAt N1 N2 sn m1 m2 j).length ∧ diffP O1 O2 ((stAt N1 N2 sn m1 m2 j).getD j z4) = false))
 case atStart => exact ⟨0, by omega, rfl, HP, ⟨good_start ⟨by omega, by have := HS.out.1.1; omega⟩ ⟨by omega, by have := HS.out.2.1; omega⟩⟩, ⟨Nat.zero_le _⟩, ⟨fun j hj => absurd hj (Nat.not_lt_zero _)⟩⟩
 case round =>
  clear HP
  obtain ⟨i, hg, rfl, HP, HG, HI, HD⟩ := hrel
  obtain ⟨wo, rfl⟩ : ∃ wo : World, wo = wr := ⟨_, rfl⟩
  obtain ⟨A10, c10, e10, hc10, hC10⟩ := Kd.R_reads HP.out.steps
  rw [List.length_map] at e10
  subst e10
  obtain ⟨st, hst⟩ : ∃ st, st = stAt N1 N2 sn m1 m2 i := ⟨_, rfl⟩
  have HST := Aside0.mk hst
  rw [← hst] at HP HG HI hC10 hc10
  rw [← hst]
  clear hst
  have HBN := Aside0.mk HG.out.bound
  by_cases hlt : i < st.length
  ·have hltz : (i : Int) < (st.length : Int) := by omega
   obtain ⟨ad, rfl, k0, k1, _, _⟩ := at_T102 hC10 (i : Int) (by omega) (by rw [List.length_map]; omega)
   rw [rdD, Int.toNat_natCast] at k0 k1
   have hga := good_at HG.out hlt
   obtain ⟨na, hna⟩ : ∃ na : Nat, (st.getD i z4).a = na := ⟨(st.getD i z4).a.toNat, by omega⟩
   obtain ⟨nb, hnb⟩ : ∃ nb : Nat, (st.getD i z4).b = nb := ⟨(st.getD i z4).b.toNat, by omega⟩
   have k0' : wo.cell? (ad.add (i * 4)) = some (.int .i64 na) := by rw [k0]; show some (Value.int .i64 (st.getD i z4).a) = _; rw [hna]
   have k1' : wo.cell? ⟨(ad.add (i * 4)).block, (ad.add (i * 4)).off + 1, none⟩ = some (.int .i64 nb) := by rw [k1]; show some (Value.int .i64 (st.getD i z4).b) = _; rw [hnb]
   have HNA : Aside0 ((st.getD i z4).a = na ∧ (st.getD i z4).b = nb ∧ na < N1.length ∧ nb < N2.length) := ⟨⟨hna, hnb, by omega, by omega⟩⟩
   have HC := Aside0.mk (And.intro k0' k1')
   clear k0 k1 k0' k1' hga hna hnb hC10 hc10
   obtain ⟨X, hXg⟩ : ∃ X, O1[na]? = some X := ⟨_, List.getElem?_eq_getElem (by have := HNA.out.2.2.1; have := HS.out.1.2; omega)⟩
   obtain ⟨Y, hYg⟩ : ∃ Y, O2[nb]? = some Y := ⟨_, List.getElem?_eq_getElem (by have := HNA.out.2.2.2; have := HS.out.2.2; omega)⟩
   obtain ⟨a1, AX, cX, rfl, hx1, hx2, hx3⟩ := list_at H1.out.o.1 na X hXg
   obtain ⟨a3, AY, cY, rfl, hy1, hy2, hy3⟩ := list_at H2.out.o.1 nb Y hYg
   have HX := Aside0.mk (And.intro hx1 (And.intro hx2 hx3))
   have HY := Aside0.mk (And.intro hy1 (And.intro hy2 hy3))
   obtain ⟨q, hq⟩ : ∃ q, q = decide (X = Y) := ⟨_, rfl⟩
   have HQ := Aside0.mk hq
   have HDF : Aside0 (diffP O1 O2 (st.getD i z4) = !q) := ⟨by
    unfold diffP
    rw [HNA.out.1, HNA.out.2.1, Int.toNat_natCast, Int.toNat_natCast, List.getD_eq_getElem?_getD, List.getD_eq_getElem?_getD, hXg, hYg, hq]
    rfl⟩
   clear hx1 hx2 hx3 hy1 hy2 hy3 hq hXg hYg
   have b1 : (na : Int) < (O1.length : Int) := by have := HNA.out.2.2.1; have := HS.out.1.2; omega
   have b2 : (nb : Int) < (O2.length : Int) := by have := HNA.out.2.2.2; have := HS.out.2.2; omega
   go_upto_region 10 with fail
   have hb := below_drew (Below.refl wo.heap.size wo)
   replace HC := Aside0.mk (And.intro (pw_cell_below hb HC.out.1) (pw_cell_below hb HC.out.2))
   replace HP := Aside0.mk (HP.out.step hb)
   clear hb
   refine start_ (n := 20) (S := fun w' => w'.cell? ⟨w.heap.size, 2, none⟩ = some (.slice (some a1) O1.length c1) ∧ w'.cell? ⟨w.heap.size + 1, 2, none⟩ = some (.slice (some a3) O2.length c3) ∧ w'.cell? (ad.add (i * 4)) = some (.int .i64 na) ∧ w'.cell? ⟨(ad.add (i * 4)).block, (ad.add (i * 4)).off + 1, none⟩ = some (.int .i64 nb) ∧ w'.cell? (a1.add na) = some (.slice AX X.length cX) ∧ w'.cell? (a3.add nb) = some (.slice AY Y.length cY)) (ds := []) #[false, false, false, false, false, false, false, false, false, false, false, false, false, false, false, false, false, false, false, false] (by kernel_rfl) rfl rfl ⟨(blk_cell HP.out.xa 2).trans rfl, (blk_cell HP.out.xb 2).trans rfl, HC.out.1, HC.out.2, pw_cell_below HP.out.below HX.out.1, pw_cell_below HP.out.below HY.out.1⟩ (fun hHeld => ?_)
   refine with_tabW rp.tab10 rp.bits10 (fun HT_ HW_ => ?_)
   generalize wo.drew = wn at HP HC hHeld ⊢
   refine pure_ (i := 0) (N := some 49) (v := ?_) (a' := ?_) #[true, false, false, false, false, false, false, false, false, false, false, false, false, false, false, false, false, false, false, false] rfl rfl (any_of HT_.out (by kernel_rfl)) (fun _ _ _ h => h) (Or.inl ⟨by rfl, ?_⟩) ?_ ?_
   rotate_left
   ·intro w'
    go_simp
    with_reducible rfl
   rotate_left
   ·simp only [Act.put, List.setIfInBounds_toArray, List.set_cons_zero, List.set_cons_succ, i64_w, i32_w]
    rfl
   refine take_ (i := 1) (N := some 50) (v := ?_) (a' := ?_) #[true, true, false, false, false, false, false, false, false, false, false, false, false, false, false, false, false, false, false, false] rfl rfl (take_ofW HT_.out HW_.out (by kernel_rfl)) (fun _ _ _ h => h) (Or.inl ⟨by rfl, ?_⟩) hHeld ?_ ?_
   rotate_left
   ·rintro w' ⟨s0, s1, s2, s3, s4, s5⟩
    go_simp
    with_reducible rfl
   rotate_left
   ·simp only [Act.put, List.setIfInBounds_toArray, List.set_cons_zero, List.set_cons_succ, i64_w, i32_w]
    rfl
   refine pure_ (i := 2) (N := some 51) (v := ?_) (a' := ?_) #[true, true, true, false, false, false, false, false, false, false, false, false, false, false, false, false, false, false, false, false] rfl rfl (any_of HT_.out (by kernel_rfl)) (fun _ _ _ h => h) (Or.inl ⟨by rfl, ?_⟩) ?_ ?_
   rotate_left
   ·intro w'
    go_simp
    with_reducible rfl
   rotate_left
   ·simp only [Act.put, List.setIfInBounds_toArray, List.set_cons_zero, List.set_cons_succ, i64_w, i32_w]
    rfl
   refine pure_ (i := 3) (N := some 52) (v := ?_) (a' := ?_) #[true, true, true, true, false, false, false, false, false, false, false, false, false, false, false, false, false, false, false, false] rfl rfl (any_of HT_.out (by kernel_rfl)) (fun _ _ _ h => h) (Or.inl ⟨by rfl, ?_⟩) ?_ ?_
   rotate_left
   ·intro w'
    go_simp
    with_reducible rfl
   rotate_left
   ·simp only [Act.put, List.setIfInBounds_toArray, List.set_cons_zero, List.set_cons_succ, i64_w, i32_w]
    rfl
   refine pure_ (i := 4) (N := some 53) (v := ?_) (a' := ?_) #[true, true, true, true, true, false, false, false, false, false, false, false, false, false, false, false, false, false, false, false] rfl rfl (any_of HT_.out (by kernel_rfl)) (fun _ _ _ h => h) (Or.inl ⟨by rfl, ?_⟩) ?_ ?_
   rotate_left
   ·intro w'
    go_simp
    with_reducible rfl
   rotate_left
   ·simp only [Act.put, List.setIfInBounds_toArray, List.set_cons_zero, List.set_cons_succ, i64_w, i32_w]
    rfl
   refine pure_ (i := 5) (N := some 54) (v := ?_) (a' := ?_) #[true, true, true, true, true, true, false, false, false, false, false, false, false, false, false, false, false, false, false, false] rfl rfl (any_of HT_.out (by kernel_rfl)) (fun _ _ _ h => h) (Or.inl ⟨by rfl, ?_⟩) ?_ ?_
   rotate_left
   ·intro w'
    go_simp
    with_reducible rfl
   rotate_left
   ·simp only [Act.put, List.setIfInBounds_toArray, List.set_cons_zero, List.set_cons_succ, i64_w, i32_w]
    rfl
   refine take_ (i := 6) (N := some 55) (v := ?_) (a' := ?_) #[true, true, true, true, true, true, true, false, false, false, false, false, false, false, false, false, false, false, false, false] rfl rfl (take_ofW HT_.out HW_.out (by kernel_rfl)) (fun _ _ _ h => h) (Or.inl ⟨by rfl, ?_⟩) hHeld ?_ ?_
   rotate_left
   ·rintro w' ⟨s0, s1, s2, s3, s4, s5⟩
    go_simp
    with_reducible rfl
   rotate_left
   ·simp only [Act.put, List.setIfInBounds_toArray, List.set_cons_zero, List.set_cons_succ, i64_w, i32_w]
    rfl
   refine pure_ (i := 7) (N := some 56) (v := ?_) (a' := ?_) #[true, true, true, true, true, true, true, true, false, false, false, false, false, false, false, false, false, false, false, false] rfl rfl (any_of HT_.out (by kernel_rfl)) (fun _ _ _ h => h) (Or.inl ⟨by rfl, ?_⟩) ?_ ?_
   rotate_left
   ·intro w'
    go_simp
    with_reducible rfl
   rotate_left
   ·simp only [Act.put, List.setIfInBounds_toArray, List.set_cons_zero, List.set_cons_succ, i64_w, i32_w]
    rfl
   refine take_ (i := 8) (N := some 57) (v := ?_) (a' := ?_) #[true, true, true, true, true, true, true, true, true, false, false, false, false, false, false, false, false, false, false, false] rfl rfl (take_ofW HT_.out HW_.out (by kernel_rfl)) (fun _ _ _ h => h) (Or.inl ⟨by rfl, ?_⟩) hHeld ?_ ?_
   rotate_left
   ·rintro w' ⟨s0, s1, s2, s3, s4, s5⟩
    go_simp
    with_reducible rfl
   rotate_left
   ·simp only [Act.put, List.setIfInBounds_toArray, List.set_cons_zero, List.set_cons_succ, i64_w, i32_w]
    rfl
   refine pure_ (i := 9) (N := some 58) (v := ?_) (a' := ?_) #[true, true, true, true, true, true, true, true, true, true, false, false, false, false, false, false, false, false, false, false] rfl rfl (any_of HT_.out (by kernel_rfl)) (fun _ _ _ h => h) (Or.inl ⟨by rfl, ?_⟩) ?_ ?_
   rotate_left
   ·intro w'
    go_simp
    with_reducible rfl
   rotate_left
   ·simp only [Act.put, List.setIfInBounds_toArray, List.set_cons_zero, List.set_cons_succ, i64_w, i32_w]
    rfl
   refine take_ (i := 10) (N := some 59) (v := ?_) (a' := ?_) #[true, true, true, true, true, true, true, true, true, true, true, false, false, false, false, false, false, false, false, false] rfl rfl (take_ofW HT_.out HW_.out (by kernel_rfl)) (fun _ _ _ h => h) (Or.inl ⟨by rfl, ?_⟩) hHeld ?_ ?_
   rotate_left
   ·rintro w' ⟨s0, s1, s2, s3, s4, s5⟩
    go_simp
    with_reducible rfl
   rotate_left
   ·simp only [Act.put, List.setIfInBounds_toArray, List.set_cons_zero, List.set_cons_succ, i64_w, i32_w]
    rfl
   refine pure_ (i := 11) (N := some 60) (v := ?_) (a' := ?_) #[true, true, true, true, true, true, true, true, true, true, true, true, false, false, false, false, false, false, false, false] rfl rfl (any_of HT_.out (by kernel_rfl)) (fun _ _ _ h => h) (Or.inl ⟨by rfl, ?_⟩) ?_ ?_
   rotate_left
   ·intro w'
    go_simp
    with_reducible rfl
   rotate_left
   ·simp only [Act.put, List.setIfInBounds_toArray, List.set_cons_zero, List.set_cons_succ, i64_w, i32_w]
    rfl
   refine pure_ (i := 12) (N := some 61) (v := ?_) (a' := ?_) #[true, true, true, true, true, true, true, true, true, true, true, true, true, false, false, false, false, false, false, false] rfl rfl (any_of HT_.out (by kernel_rfl)) (fun _ _ _ h => h) (Or.inl ⟨by rfl, ?_⟩) ?_ ?_
   rotate_left
   ·intro w'
    go_simp
    with_reducible rfl
   rotate_left
   ·simp only [Act.put, List.setIfInBounds_toArray, List.set_cons_zero, List.set_cons_succ, i64_w, i32_w]
    rfl
   refine pure_ (i := 13) (N := some 62) (v := ?_) (a' := ?_) #[true, true, true, true, true, true, true, true, true, true, true, true, true, true, false, false, false, false, false, false] rfl rfl (any_of HT_.out (by kernel_rfl)) (fun _ _ _ h => h) (Or.inl ⟨by rfl, ?_⟩) ?_ ?_
   rotate_left
   ·intro w'
    go_simp
    with_reducible rfl
   rotate_left
   ·simp only [Act.put, List.setIfInBounds_toArray, List.set_cons_zero, List.set_cons_succ, i64_w, i32_w]
    rfl
   refine pure_ (i := 14) (N := some 63) (v := ?_) (a' := ?_) #[true, true, true, true, true, true, true, true, true, true, true, true, true, true, true, false, false, false, false, false] rfl rfl (any_of HT_.out (by kernel_rfl)) (fun _ _ _ h => h) (Or.inl ⟨by rfl, ?_⟩) ?_ ?_
   rotate_left
   ·intro w'
    go_simp
    with_reducible rfl
   rotate_left
   ·simp only [Act.put, List.setIfInBounds_toArray, List.set_cons_zero, List.set_cons_succ, i64_w, i32_w]
    rfl
   refine take_ (i := 15) (N := some 64) (v := ?_) (a' := ?_) #[true, true, true, true, true, true, true, true, true, true, true, true, true, true, true, true, false, false, false, false] rfl rfl (take_ofW HT_.out HW_.out (by kernel_rfl)) (fun _ _ _ h => h) (Or.inl ⟨by rfl, ?_⟩) hHeld ?_ ?_
   rotate_left
   ·rintro w' ⟨s0, s1, s2, s3, s4, s5⟩
    go_simp
    with_reducible rfl
   rotate_left
   ·simp only [Act.put, List.setIfInBounds_toArray, List.set_cons_zero, List.set_cons_succ, i64_w, i32_w]
    rfl
   refine pure_ (i := 16) (N := some 65) (v := ?_) (a' := ?_) #[true, true, true, true, true, true, true, true, true, true, true, true, true, true, true, true, true, false, false, false] rfl rfl (any_of HT_.out (by kernel_rfl)) (fun _ _ _ h => h) (Or.inl ⟨by rfl, ?_⟩) ?_ ?_
   rotate_left
   ·intro w'
    go_simp
    with_reducible rfl
   rotate_left
   ·simp only [Act.put, List.setIfInBounds_toArray, List.set_cons_zero, List.set_cons_succ, i64_w, i32_w]
    rfl
   refine take_ (i := 17) (N := some 66) (v := ?_) (a' := ?_) #[true, true, true, true, true, true, true, true, true, true, true, true, true, true, true, true, true, true, false, false] rfl rfl (take_ofW HT_.out HW_.out (by kernel_rfl)) (fun _ _ _ h => h) (Or.inl ⟨by rfl, ?_⟩) hHeld ?_ ?_
   rotate_left
   ·rintro w' ⟨s0, s1, s2, s3, s4, s5⟩
    go_simp
    with_reducible rfl
   rotate_left
   ·simp only [Act.put, List.setIfInBounds_toArray, List.set_cons_zero, List.set_cons_succ, i64_w, i32_w]
    rfl
   refine one_ (i := 18) (N := some 67) #[true, true, true, true, true, true, true, true, true, true, true, true, true, true, true, true, true, true, true, false] rfl rfl (one_of HT_.out (by kernel_rfl)) (by decide) (fun K hK => ?_)
   refine goes_ Tryd.func16 (by kernel_rfl) rfl #[.slice AX X.length cX, .slice AY Y.length cY] (by rfl) rfl rfl (by (try simp only [List.map_toArray, List.map_cons, List.map_nil]); first | done | rfl) ?_
   refine (sameI_c (Kd.C_below HX.out.2.2 HP.out.below) HX.out.2.1 (Kd.C_below HY.out.2.2 HP.out.below) HY.out.2.1).mono ?_
   rintro e wm ⟨he, hb⟩
   rw [← HQ.out] at he
   subst he
   refine ⟨_, rfl, ?_⟩
   skip
   replace HC := Aside0.mk (And.intro (pw_cell_below hb HC.out.1) (pw_cell_below hb HC.out.2))
   replace HP := Aside0.mk (HP.out.step hb)
   obtain ⟨wn, rfl⟩ : ∃ wn, wn = wm := ⟨_, rfl⟩
   refine hK.out _ _ ⟨(blk_cell HP.out.xa 2).trans rfl, (blk_cell HP.out.xb 2).trans rfl, HC.out.1, HC.out.2, pw_cell_below HP.out.below HX.out.1, pw_cell_below HP.out.below HY.out.1⟩ (fun hHeld => ?_)
   clear hK K hb
   refine norm_ (a' := ?_) ?_ ?_
   rotate_left
   ·show Act.put _ (some 67) _ = _
    simp only [Act.put, List.setIfInBounds_toArray, List.set_cons_zero, List.set_cons_succ, i64_w, i32_w]
    rfl
   refine pure_ (i := 19) (N := some 14) (v := ?_) (a' := ?_) #[true, true, true, true, true, true, true, true, true, true, true, true, true, true, true, true, true, true, true, true] rfl rfl (any_of HT_.out (by kernel_rfl)) (fun _ _ _ h => h) (Or.inl ⟨by rfl, ?_⟩) ?_ ?_
   rotate_left
   ·intro w'
    go_simp
    with_reducible rfl
   rotate_left
   ·simp only [Act.put, List.setIfInBounds_toArray, List.set_cons_zero, List.set_cons_succ, i64_w, i32_w]
    rfl
   refine done_ (done_of HT_.out (by kernel_rfl)) ?_
   clear hHeld b1 b2
   cases q with
   | false =>
    go_wp2_with fail
    have hrs := Kd.R_reads' HP.out.steps
    refine (word_c HG.out hlt (by have := HBN.out; have := HMe.out; have := HMM.out; omega) hrs.2.2 (by rw [List.length_map]; exact hrs.2.1)).mono ?_
    rintro e w6 ⟨v, rfl, hr, hb⟩
    have HRR := Aside0.mk (Kd.R_lower hr HP.out.below.size)
    have HB6 := Aside0.mk (below_step HP.out.below hb)
    have HWY : Aside0 (ApR N1 O1 N2 O2 sn m1 m2 (way st i) true) := ⟨by
     have hl := hlt
     have hd := HDF.out
     rw [HST.out] at hl hd ⊢
     exact ApR.yes (i := i) HD.out hl hd⟩
    clear hr hb hrs
    go_wp2_with fail
    go_ret3
    exact ApPostD.mk v _ true rfl HRR.out HB6.out HWY.out
   | true =>
    clear HX HY HQ HC
    go_wp2_with fail
    go_loopg [11, 15] sn (fun gg v10 v69 wr => ∃ k : Nat, k ≤ sn ∧ sn - k ≤ gg ∧ v69 = .int .i64 k ∧ Aside0 (AD w #[.int .i64 (m1 : Nat), .slice A0 N1.length c0, .slice (some a1) O1.length c1] #[.int .i64 (m2 : Nat), .slice A2 N2.length c2, .slice (some a3) O2.length c3] bm v10 (extK N1 N2 i na nb st k) (extK N1 N2 i na nb st k) wr))
    case atStart => exact ⟨0, Nat.zero_le _, by omega, rfl, HP⟩
    case round =>
     clear HP
     obtain ⟨k, hk, hg2, rfl, HP⟩ := hrel
     obtain ⟨wq, rfl⟩ : ∃ wq : World, wq = wr := ⟨_, rfl⟩
     by_cases hlt2 : k < sn
     ·have hltz2 : (k : Int) < (sn : Int) := by omega
      obtain ⟨sk, hsk⟩ : ∃ sk, sk = extK N1 N2 i na nb st k := ⟨_, rfl⟩
      have HSK := Aside0.mk hsk
      have HGK : Aside0 (Good N1.length N2.length sk) := ⟨by rw [hsk]; exact HG.out.ext HR.out.1 HR.out.2 rfl rfl hlt ⟨by omega, by have := HNA.out.2.2.1; omega⟩ ⟨by omega, by have := HNA.out.2.2.2; omega⟩ k hk⟩
      rw [← hsk] at HP
      clear hsk
      have HKN := Aside0.mk HGK.out.bound
      obtain ⟨A11, c11, e11, hc11, hC11⟩ := Kd.R_reads HP.out.steps
      rw [List.length_map] at e11
      subst e11
      have hlk : i < sk.length := by have := extK_len N1 N2 i na nb st k; rw [HSK.out]; omega
      have hgk : sk.getD i z4 = st.getD i z4 := by rw [HSK.out]; exact extK_get hlt k
      have hlkz : (i : Int) < (sk.length : Int) := by omega
      obtain ⟨ad, rfl, k0, k1, _, _⟩ := at_T102 hC11 (i : Int) (by omega) (by rw [List.length_map]; omega)
      rw [rdD, Int.toNat_natCast, hgk] at k0 k1
      have k0' : wq.cell? (ad.add (i * 4)) = some (.int .i64 na) := by rw [k0]; show some (Value.int .i64 (st.getD i z4).a) = _; rw [HNA.out.1]
      have k1' : wq.cell? ⟨(ad.add (i * 4)).block, (ad.add (i * 4)).off + 1, none⟩ = some (.int .i64 nb) := by rw [k1]; show some (Value.int .i64 (st.getD i z4).b) = _; rw [HNA.out.2.1]
      have HC := Aside0.mk (And.intro k0' k1')
      clear hc11 hC11 k0 k1 k0' k1' hgk
      obtain ⟨X, hXg, hXl, hXk⟩ := rowAt HR.out.1 HNA.out.2.2.1 hlt2
      obtain ⟨Y, hYg, hYl, hYk⟩ := rowAt HR.out.2 HNA.out.2.2.2 hlt2
      obtain ⟨a0, AX, cX, rfl, hx1, hx2, hx3⟩ := list_at H1.out.n.1 na X hXg
      obtain ⟨a2, AY, cY, rfl, hy1, hy2, hy3⟩ := list_at H2.out.n.1 nb Y hYg
      obtain ⟨ax, rfl, hx4⟩ := int_at hx3 k _ hXk
      obtain ⟨ay, rfl, hy4⟩ := int_at hy3 k _ hYk
      have hbx := HR.out.1.get (a := na) (k := k) (by omega) (by have := HNA.out.2.2.1; omega) hlt2
      have hby := HR.out.2.get (a := nb) (k := k) (by omega) (by have := HNA.out.2.2.2; omega) hlt2
      rw [hXl] at hx1
      rw [hYl] at hy1
      obtain ⟨x, hx⟩ : ∃ x, x = getI N1 na k := ⟨_, rfl⟩
      obtain ⟨y, hy⟩ : ∃ y, y = getI N2 nb k := ⟨_, rfl⟩
      rw [← hx] at hx4 hbx
      rw [← hy] at hy4 hby
      have HXY := Aside0.mk (And.intro hx hy)
      have HX := Aside0.mk (And.intro hx1 hx4)
      have HY := Aside0.mk (And.intro hy1 hy4)
      obtain ⟨ky, hky⟩ := keyArr (a := x) (b := y) (wf_of hbx HN.out.1) (wf_of hby HN.out.2)
      have HKY := Aside0.mk hky
      clear hXg hXl hXk hYg hYl hYk hx1 hx2 hx3 hx4 hy1 hy2 hy3 hy4 hbx hby hx hy hky
      have b1 : (na : Int) < (N1.length : Int) := by have := HNA.out.2.2.1; omega
      have b2 : (nb : Int) < (N2.length : Int) := by have := HNA.out.2.2.2; omega
      go_upto_region 16 with fail
      have hb := below_drew (Below.refl wq.heap.size wq)
      replace HC := Aside0.mk (And.intro (pw_cell_below hb HC.out.1) (pw_cell_below hb HC.out.2))
      replace HP := Aside0.mk (HP.out.step hb)
      clear hb
      refine start_ (n := 29) (S := fun w' => w'.cell? ⟨w.heap.size, 1, none⟩ = some (.slice (some a0) N1.length c0) ∧ w'.cell? ⟨w.heap.size + 1, 1, none⟩ = some (.slice (some a2) N2.length c2) ∧ w'.cell? (ad.add (i * 4)) = some (.int .i64 na) ∧ w'.cell? ⟨(ad.add (i * 4)).block, (ad.add (i * 4)).off + 1, none⟩ = some (.int .i64 nb) ∧ w'.cell? (a0.add na) = some (.slice (some ax) sn cX) ∧ w'.cell? (a2.add nb) = some (.slice (some ay) sn cY) ∧ w'.cell? (ax.add k) = some (.int .i64 x) ∧ w'.cell? (ay.add k) = some (.int .i64 y)) (ds := [28]) #[false, false, false, false, false, false, false, false, false, false, false, false, false, false, false, false, false, false, false, false, false, false, false, false, false, false, false, false, false] (by kernel_rfl) rfl rfl ⟨(blk_cell HP.out.xa 1).trans rfl, (blk_cell HP.out.xb 1).trans rfl, HC.out.1, HC.out.2, pw_cell_below HP.out.below HX.out.1, pw_cell_below HP.out.below HY.out.1, pw_cell_below HP.out.below HX.out.2, pw_cell_below HP.out.below HY.out.2⟩ (fun hHeld => ?_)
      refine with_tabW rp.tab16 rp.bits16 (fun HT_ HW_ => ?_)
      generalize wq.drew = wn at HP HC hHeld ⊢
      refine pure_ (i := 0) (N := some 78) (v := ?_) (a' := ?_) #[true, false, false, false, false, false, false, false, false, false, false, false, false, false, false, false, false, false, false, false, false, false, false, false, false, false, false, false, false] rfl rfl (any_of HT_.out (by kernel_rfl)) (fun _ _ _ h => h) (Or.inl ⟨by rfl, ?_⟩) ?_ ?_
      rotate_left
      ·intro w'
       go_simp
       with_reducible rfl
      rotate_left
      ·simp only [Act.put, List.setIfInBounds_toArray, List.set_cons_zero, List.set_cons_succ, i64_w, i32_w]
       rfl
      refine take_ (i := 1) (N := some 79) (v := ?_) (a' := ?_) #[true, true, false, false, false, false, false, false, false, false, false, false, false, false, false, false, false, false, false, false, false, false, false, false, false, false, false, false, false] rfl rfl (take_ofW HT_.out HW_.out (by kernel_rfl)) (fun _ _ _ h => h) (Or.inl ⟨by rfl, ?_⟩) hHeld ?_ ?_
      rotate_left
      ·rintro w' ⟨s0, s1, s2, s3, s4, s5, s6, s7⟩
       go_simp
       with_reducible rfl
      rotate_left
      ·simp only [Act.put, List.setIfInBounds_toArray, List.set_cons_zero, List.set_cons_succ, i64_w, i32_w]
       rfl
      refine pure_ (i := 2) (N := some 80) (v := ?_) (a' := ?_) #[true, true, true, false, false, false, false, false, false, false, false, false, false, false, false, false, false, false, false, false, false, false, false, false, false, false, false, false, false] rfl rfl (any_of HT_.out (by kernel_rfl)) (fun _ _ _ h => h) (Or.inl ⟨by rfl, ?_⟩) ?_ ?_
      rotate_left
      ·intro w'
       go_simp
       with_reducible rfl
      rotate_left
      ·simp only [Act.put, List.setIfInBounds_toArray, List.set_cons_zero, List.set_cons_succ, i64_w, i32_w]
       rfl
      refine pure_ (i := 3) (N := some 81) (v := ?_) (a' := ?_) #[true, true, true, true, false, false, false, false, false, false, false, false, false, false, false, false, false, false, false, false, false, false, false, false, false, false, false, false, false] rfl rfl (any_of HT_.out (by kernel_rfl)) (fun _ _ _ h => h) (Or.inl ⟨by rfl, ?_⟩) ?_ ?_
      rotate_left
      ·intro w'
       go_simp
       with_reducible rfl
      rotate_left
      ·simp only [Act.put, List.setIfInBounds_toArray, List.set_cons_zero, List.set_cons_succ, i64_w, i32_w]
       rfl
      refine pure_ (i := 4) (N := some 82) (v := ?_) (a' := ?_) #[true, true, true, true, true, false, false, false, false, false, false, false, false, false, false, false, false, false, false, false, false, false, false, false, false, false, false, false, false] rfl rfl (any_of HT_.out (by kernel_rfl)) (fun _ _ _ h => h) (Or.inl ⟨by rfl, ?_⟩) ?_ ?_
      rotate_left
      ·intro w'
       go_simp
       with_reducible rfl
      rotate_left
      ·simp only [Act.put, List.setIfInBounds_toArray, List.set_cons_zero, List.set_cons_succ, i64_w, i32_w]
       rfl
      refine pure_ (i := 5) (N := some 83) (v := ?_) (a' := ?_) #[true, true, true, true, true, true, false, false, false, false, false, false, false, false, false, false, false, false, false, false, false, false, false, false, false, false, false, false, false] rfl rfl (any_of HT_.out (by kernel_rfl)) (fun _ _ _ h => h) (Or.inl ⟨by rfl, ?_⟩) ?_ ?_
      rotate_left
      ·intro w'
       go_simp
       with_reducible rfl
      rotate_left
      ·simp only [Act.put, List.setIfInBounds_toArray, List.set_cons_zero, List.set_cons_succ, i64_w, i32_w]
       rfl
      refine take_ (i := 6) (N := some 84) (v := ?_) (a' := ?_) #[true, true, true, true, true, true, true, false, false, false, false, false, false, false, false, false, false, false, false, false, false, false, false, false, false, false, false, false, false] rfl rfl (take_ofW HT_.out HW_.out (by kernel_rfl)) (fun _ _ _ h => h) (Or.inl ⟨by rfl, ?_⟩) hHeld ?_ ?_
      rotate_left
      ·rintro w' ⟨s0, s1, s2, s3, s4, s5, s6, s7⟩
       go_simp
       with_reducible rfl
      rotate_left
      ·simp only [Act.put, List.setIfInBounds_toArray, List.set_cons_zero, List.set_cons_succ, i64_w, i32_w]
       rfl
      refine pure_ (i := 7) (N := some 85) (v := ?_) (a' := ?_) #[true, true, true, true, true, true, true, true, false, false, false, false, false, false, false, false, false, false, false, false, false, false, false, false, false, false, false, false, false] rfl rfl (any_of HT_.out (by kernel_rfl)) (fun _ _ _ h => h) (Or.inl ⟨by rfl, ?_⟩) ?_ ?_
      rotate_left
      ·intro w'
       go_simp
       with_reducible rfl
      rotate_left
      ·simp only [Act.put, List.setIfInBounds_toArray, List.set_cons_zero, List.set_cons_succ, i64_w, i32_w]
       rfl
      refine take_ (i := 8) (N := some 86) (v := ?_) (a' := ?_) #[true, true, true, true, true, true, true, true, true, false, false, false, false, false, false, false, false, false, false, false, false, false, false, false, false, false, false, false, false] rfl rfl (take_ofW HT_.out HW_.out (by kernel_rfl)) (fun _ _ _ h => h) (Or.inl ⟨by rfl, ?_⟩) hHeld ?_ ?_
      rotate_left
      ·rintro w' ⟨s0, s1, s2, s3, s4, s5, s6, s7⟩
       go_simp
       with_reducible rfl
      rotate_left
      ·simp only [Act.put, List.setIfInBounds_toArray, List.set_cons_zero, List.set_cons_succ, i64_w, i32_w]
       rfl
      refine pure_ (i := 9) (N := some 87) (v := ?_) (a' := ?_) #[true, true, true, true, true, true, true, true, true, true, false, false, false, false, false, false, false, false, false, false, false, false, false, false, false, false, false, false, false] rfl rfl (any_of HT_.out (by kernel_rfl)) (fun _ _ _ h => h) (Or.inl ⟨by rfl, ?_⟩) ?_ ?_
      rotate_left
      ·intro w'
       go_simp
       with_reducible rfl
      rotate_left
      ·simp only [Act.put, List.setIfInBounds_toArray, List.set_cons_zero, List.set_cons_succ, i64_w, i32_w]
       rfl
      refine pure_ (i := 10) (N := some 88) (v := ?_) (a' := ?_) #[true, true, true, true, true, true, true, true, true, true, true, false, false, false, false, false, false, false, false, false, false, false, false, false, false, false, false, false, false] rfl rfl (any_of HT_.out (by kernel_rfl)) (fun _ _ _ h => h) (Or.inl ⟨by rfl, ?_⟩) ?_ ?_
      rotate_left
      ·intro w'
       go_simp
       with_reducible rfl
      rotate_left
      ·simp only [Act.put, List.setIfInBounds_toArray, List.set_cons_zero, List.set_cons_succ, i64_w, i32_w]
       rfl
      refine take_ (i := 11) (N := some 89) (v := ?_) (a' := ?_) #[true, true, true, true, true, true, true, true, true, true, true, true, false, false, false, false, false, false, false, false, false, false, false, false, false, false, false, false, false] rfl rfl (take_ofW HT_.out HW_.out (by kernel_rfl)) (fun _ _ _ h => h) (Or.inl ⟨by rfl, ?_⟩) hHeld ?_ ?_
      rotate_left
      ·rintro w' ⟨s0, s1, s2, s3, s4, s5, s6, s7⟩
       go_simp
       with_reducible rfl
      rotate_left
      ·simp only [Act.put, List.setIfInBounds_toArray, List.set_cons_zero, List.set_cons_succ, i64_w, i32_w]
       rfl
      refine pure_ (i := 12) (N := some 90) (v := ?_) (a' := ?_) #[true, true, true, true, true, true, true, true, true, true, true, true, true, false, false, false, false, false, false, false, false, false, false, false, false, false, false, false, false] rfl rfl (any_of HT_.out (by kernel_rfl)) (fun _ _ _ h => h) (Or.inl ⟨by rfl, ?_⟩) ?_ ?_
      rotate_left
      ·intro w'
       go_simp
       with_reducible rfl
      rotate_left
      ·simp only [Act.put, List.setIfInBounds_toArray, List.set_cons_zero, List.set_cons_succ, i64_w, i32_w]
       rfl
      refine take_ (i := 13) (N := some 91) (v := ?_) (a' := ?_) #[true, true, true, true, true, true, true, true, true, true, true, true, true, true, false, false, false, false, false, false, false, false, false, false, false, false, false, false, false] rfl rfl (take_ofW HT_.out HW_.out (by kernel_rfl)) (fun _ _ _ h => h) (Or.inl ⟨by rfl, ?_⟩) hHeld ?_ ?_
      rotate_left
      ·rintro w' ⟨s0, s1, s2, s3, s4, s5, s6, s7⟩
       go_simp
       with_reducible rfl
      rotate_left
      ·simp only [Act.put, List.setIfInBounds_toArray, List.set_cons_zero, List.set_cons_succ, i64_w, i32_w]
       rfl
      refine pure_ (i := 14) (N := some 92) (v := ?_) (a' := ?_) #[true, true, true, true, true, true, true, true, true, true, true, true, true, true, true, false, false, false, false, false, false, false, false, false, false, false, false, false, false] rfl rfl (any_of HT_.out (by kernel_rfl)) (fun _ _ _ h => h) (Or.inl ⟨by rfl, ?_⟩) ?_ ?_
      rotate_left
      ·intro w'
       go_simp
       with_reducible rfl
      rotate_left
      ·simp only [Act.put, List.setIfInBounds_toArray, List.set_cons_zero, List.set_cons_succ, i64_w, i32_w]
       rfl
      refine pure_ (i := 15) (N := some 93) (v := ?_) (a' := ?_) #[true, true, true, true, true, true, true, true, true, true, true, true, true, true, true, true, false, false, false, false, false, false, false, false, false, false, false, false, false] rfl rfl (any_of HT_.out (by kernel_rfl)) (fun _ _ _ h => h) (Or.inl ⟨by rfl, ?_⟩) ?_ ?_
      rotate_left
      ·intro w'
       go_simp
       with_reducible rfl
      rotate_left
      ·simp only [Act.put, List.setIfInBounds_toArray, List.set_cons_zero, List.set_cons_succ, i64_w, i32_w]
       rfl
      refine pure_ (i := 16) (N := some 94) (v := ?_) (a' := ?_) #[true, true, true, true, true, true, true, true, true, true, true, true, true, true, true, true, true, false, false, false, false, false, false, false, false, false, false, false, false] rfl rfl (any_of HT_.out (by kernel_rfl)) (fun _ _ _ h => h) (Or.inl ⟨by rfl, ?_⟩) ?_ ?_
      rotate_left
      ·intro w'
       go_simp
       with_reducible rfl
      rotate_left
      ·simp only [Act.put, List.setIfInBounds_toArray, List.set_cons_zero, List.set_cons_succ, i64_w, i32_w]
       rfl
      refine pure_ (i := 17) (N := some 95) (v := ?_) (a' := ?_) #[true, true, true, true, true, true, true, true, true, true, true, true, true, true, true, true, true, true, false, false, false, false, false, false, false, false, false, false, false] rfl rfl (any_of HT_.out (by kernel_rfl)) (fun _ _ _ h => h) (Or.inl ⟨by rfl, ?_⟩) ?_ ?_
      rotate_left
      ·intro w'
       go_simp
       with_reducible rfl
      rotate_left
      ·simp only [Act.put, List.setIfInBounds_toArray, List.set_cons_zero, List.set_cons_succ, i64_w, i32_w]
       rfl
      refine take_ (i := 18) (N := some 96) (v := ?_) (a' := ?_) #[true, true, true, true, true, true, true, true, true, true, true, true, true, true, true, true, true, true, true, false, false, false, false, false, false, false, false, false, false] rfl rfl (take_ofW HT_.out HW_.out (by kernel_rfl)) (fun _ _ _ h => h) (Or.inl ⟨by rfl, ?_⟩) hHeld ?_ ?_
      rotate_left
      ·rintro w' ⟨s0, s1, s2, s3, s4, s5, s6, s7⟩
       go_simp
       with_reducible rfl
      rotate_left
      ·simp only [Act.put, List.setIfInBounds_toArray, List.set_cons_zero, List.set_cons_succ, i64_w, i32_w]
       rfl
      refine pure_ (i := 19) (N := some 97) (v := ?_) (a' := ?_) #[true, true, true, true, true, true, true, true, true, true, true, true, true, true, true, true, true, true, true, true, false, false, false, false, false, false, false, false, false] rfl rfl (any_of HT_.out (by kernel_rfl)) (fun _ _ _ h => h) (Or.inl ⟨by rfl, ?_⟩) ?_ ?_
      rotate_left
      ·intro w'
       go_simp
       with_reducible rfl
      rotate_left
      ·simp only [Act.put, List.setIfInBounds_toArray, List.set_cons_zero, List.set_cons_succ, i64_w, i32_w]
       rfl
      refine take_ (i := 20) (N := some 98) (v := ?_) (a' := ?_) #[true, true, true, true, true, true, true, true, true, true, true, true, true, true, true, true, true, true, true, true, true, false, false, false, false, false, false, false, false] rfl rfl (take_ofW HT_.out HW_.out (by kernel_rfl)) (fun _ _ _ h => h) (Or.inl ⟨by rfl, ?_⟩) hHeld ?_ ?_
      rotate_left
      ·rintro w' ⟨s0, s1, s2, s3, s4, s5, s6, s7⟩
       go_simp
       with_reducible rfl
      rotate_left
      ·simp only [Act.put, List.setIfInBounds_toArray, List.set_cons_zero, List.set_cons_succ, i64_w, i32_w]
       rfl
      refine pure_ (i := 21) (N := some 99) (v := ?_) (a' := ?_) #[true, true, true, true, true, true, true, true, true, true, true, true, true, true, true, true, true, true, true, true, true, true, false, false, false, false, false, false, false] rfl rfl (any_of HT_.out (by kernel_rfl)) (fun _ _ _ h => h) (Or.inl ⟨by rfl, ?_⟩) ?_ ?_
      rotate_left
      ·intro w'
       go_simp
       with_reducible rfl
      rotate_left
      ·simp only [Act.put, List.setIfInBounds_toArray, List.set_cons_zero, List.set_cons_succ, i64_w, i32_w]
       rfl
      refine pure_ (i := 22) (N := some 100) (v := ?_) (a' := ?_) #[true, true, true, true, true, true, true, true, true, true, true, true, true, true, true, true, true, true, true, true, true, true, true, false, false, false, false, false, false] rfl rfl (any_of HT_.out (by kernel_rfl)) (fun _ _ _ h => h) (Or.inl ⟨by rfl, ?_⟩) ?_ ?_
      rotate_left
      ·intro w'
       go_simp
       with_reducible rfl
      rotate_left
      ·simp only [Act.put, List.setIfInBounds_toArray, List.set_cons_zero, List.set_cons_succ, i64_w, i32_w]
       rfl
      refine take_ (i := 23) (N := some 101) (v := ?_) (a' := ?_) #[true, true, true, true, true, true, true, true, true, true, true, true, true, true, true, true, true, true, true, true, true, true, true, true, false, false, false, false, false] rfl rfl (take_ofW HT_.out HW_.out (by kernel_rfl)) (fun _ _ _ h => h) (Or.inl ⟨by rfl, ?_⟩) hHeld ?_ ?_
      rotate_left
      ·rintro w' ⟨s0, s1, s2, s3, s4, s5, s6, s7⟩
       go_simp
       with_reducible rfl
      rotate_left
      ·simp only [Act.put, List.setIfInBounds_toArray, List.set_cons_zero, List.set_cons_succ, i64_w, i32_w]
       rfl
      refine pure_ (i := 24) (N := some 102) (v := ?_) (a' := ?_) #[true, true, true, true, true, true, true, true, true, true, true, true, true, true, true, true, true, true, true, true, true, true, true, true, true, false, false, false, false] rfl rfl (any_of HT_.out (by kernel_rfl)) (fun _ _ _ h => h) (Or.inl ⟨by rfl, ?_⟩) ?_ ?_
      rotate_left
      ·intro w'
       go_simp
       with_reducible rfl
      rotate_left
      ·simp only [Act.put, List.setIfInBounds_toArray, List.set_cons_zero, List.set_cons_succ, i64_w, i32_w]
       rfl
      refine pure_ (i := 25) (N := some 103) (v := ?_) (a' := ?_) #[true, true, true, true, true, true, true, true, true, true, true, true, true, true, true, true, true, true, true, true, true, true, true, true, true, true, false, false, false] rfl rfl (any_of HT_.out (by kernel_rfl)) (fun _ _ _ h => h) (Or.inl ⟨by rfl, ?_⟩) ?_ ?_
      rotate_left
      ·intro w'
       go_simp
       with_reducible rfl
      rotate_left
      ·simp only [Act.put, List.setIfInBounds_toArray, List.set_cons_zero, List.set_cons_succ, i64_w, i32_w]
       rfl
      refine pure_ (i := 26) (N := some 104) (v := ?_) (a' := ?_) #[true, true, true, true, true, true, true, true, true, true, true, true, true, true, true, true, true, true, true, true, true, true, true, true, true, true, true, false, false] rfl rfl (any_of HT_.out (by kernel_rfl)) (fun _ _ _ h => h) (Or.inl ⟨by rfl, ?_⟩) ?_ ?_
      rotate_left
      ·intro w'
       go_simp
       with_reducible rfl
      rotate_left
      ·simp only [Act.put, List.setIfInBounds_toArray, List.set_cons_zero, List.set_cons_succ, i64_w, i32_w]
       rfl
      refine one_ (i := 27) (N := some 16) #[true, true, true, true, true, true, true, true, true, true, true, true, true, true, true, true, true, true, true, true, true, true, true, true, true, true, true, true, false] rfl rfl (one_of HT_.out (by kernel_rfl)) (by decide) (fun K hK => ?_)
      refine value_ (w1 := wn.alloc (.cells #[.int .i64 0, .int .i64 0, .int .i64 0, .int .i64 0] 102)) (v := .pointer (some ⟨wn.heap.size, 0, none⟩)) (by rfl) rfl ?_ ?_
      ·go_simp
      have HQt := Aside0.mk (heap_alloc_new wn (.cells #[.int .i64 0, .int .i64 0, .int .i64 0, .int .i64 0] 102))
      have HBo := Aside0.mk (below_alloc (Below.refl wn.heap.size wn) (.cells #[.int .i64 0, .int .i64 0, .int .i64 0, .int .i64 0] 102))
      have HPb := Aside0.mk (HP.out.step HBo.out)
      have HCb := Aside0.mk (And.intro (pw_cell_below HBo.out HC.out.1) (pw_cell_below HBo.out HC.out.2))
      generalize World.alloc wn _ = wp at HQt HBo HPb HCb ⊢
      obtain ⟨bt2, hbt2⟩ : ∃ b, b = wn.heap.size := ⟨_, rfl⟩
      have HE := Aside0.mk hbt2
      rw [← hbt2] at HQt ⊢
      clear hbt2
      refine hK.out _ _ ⟨(blk_cell HPb.out.xa 1).trans rfl, (blk_cell HPb.out.xb 1).trans rfl, HCb.out.1, HCb.out.2, pw_cell_below HPb.out.below HX.out.1, pw_cell_below HPb.out.below HY.out.1, pw_cell_below HPb.out.below HX.out.2, pw_cell_below HPb.out.below HY.out.2⟩ (fun hHeld => ?_)
      clear hK K HPb HCb
      refine norm_ (a' := ?_) ?_ ?_
      rotate_left
      ·show Act.put _ (some 16) _ = _
       simp only [Act.put, List.setIfInBounds_toArray, List.set_cons_zero, List.set_cons_succ, i64_w, i32_w]
       rfl
      refine last_ (i := 28) (N := none) #[true, true, true, true, true, true, true, true, true, true, true, true, true, true, true, true, true, true, true, true, true, true, true, true, true, true, true, true, true] rfl rfl (one_of HT_.out (by kernel_rfl)) (by decide) (fun K hK => ?_)
      have z0 : wp.cell? ⟨bt2, 0, none⟩ = some (.int .i64 0) := (blk_cell HQt.out 0).trans rfl
      have z1 : wp.cell? ⟨bt2, 1, none⟩ = some (.int .i64 0) := (blk_cell HQt.out 1).trans rfl
      have z2 : wp.cell? ⟨bt2, 2, none⟩ = some (.int .i64 0) := (blk_cell HQt.out 2).trans rfl
      have z3 : wp.cell? ⟨bt2, 3, none⟩ = some (.int .i64 0) := (blk_cell HQt.out 3).trans rfl
      have y0 := blk_frozen HQt.out 0
      have y1 := blk_frozen HQt.out 1
      have y2 := blk_frozen HQt.out 2
      have y3 := blk_frozen HQt.out 3
      refine skip_ (w1 := ?_) (by rfl) rfl ?_ ?_
      rotate_left
      ·go_simp
       rfl
      refine hK.out _ _ ?_
      clear hK K z0 z1 z2 z3 y0 y1 y2 y3
      refine done_ (done_of HT_.out (by kernel_rfl)) ?_
      clear hHeld b1 b2 HC
      go_upto_region 17 with fail
      have HBf : Aside0 (Below bt2 wn ((((wp.setCell ⟨bt2, 0, none⟩ (.int .i64 x)).setCell ⟨bt2, 1, none⟩ (.int .i64 y)).setCell ⟨bt2, 2, none⟩ (.int .i64 i)).setCell ⟨bt2, 3, none⟩ (.int .i64 k))) := ⟨((((HBo.out.mono (B' := bt2) (by have := HE.out; omega)).setCell (p := ⟨bt2, 0, none⟩) (Nat.le_refl _) _).setCell (p := ⟨bt2, 1, none⟩) (Nat.le_refl _) _).setCell (p := ⟨bt2, 2, none⟩) (Nat.le_refl _) _).setCell (p := ⟨bt2, 3, none⟩) (Nat.le_refl _) _⟩
      replace HP := Aside0.mk (HP.out.step (HBf.out.mono (by have := HE.out; omega)))
      replace HQt := Aside0.mk (blk_put (blk_put (blk_put (blk_put HQt.out 0 (.int .i64 x) rfl) 1 (.int .i64 y) rfl) 2 (.int .i64 i) rfl) 3 (.int .i64 k) rfl)
      clear HBf HBo HE
      generalize World.setCell _ _ _ = w6 at HP HQt ⊢
      have p0 : w6.cell? ⟨bt2, 0, none⟩ = some (.int .i64 x) := (blk_cell HQt.out 0).trans rfl
      have p1 : w6.cell? ⟨bt2, 1, none⟩ = some (.int .i64 y) := (blk_cell HQt.out 1).trans rfl
      go_upto_region 18 with fail
      have HQp := Aside0.mk (heap_alloc_new w6 (.cells #[.int .i64 x, .int .i64 y] 104))
      replace HQt := Aside0.mk (blk_alloc HQt.out (.cells #[.int .i64 x, .int .i64 y] 104))
      replace HP := Aside0.mk (HP.out.step (below_alloc (Below.refl _ w6) (.cells #[.int .i64 x, .int .i64 y] 104)))
      clear p0 p1
      generalize World.alloc w6 _ = w6' at HP HQt HQp ⊢
      generalize w6.heap.size = bp at HQp ⊢
      have q0 : w6'.cell? ⟨bp, 0, none⟩ = some (.int .i64 x) := (blk_cell HQp.out 0).trans rfl
      have q1 : w6'.cell? ⟨bp, 1, none⟩ = some (.int .i64 y) := (blk_cell HQp.out 1).trans rfl
      have hkb : 0 ≤ (i : Int) := by omega
      rcases HP.out.map.look false lawArr Tryd.underlying105 (zeroBool _) HKY.out with ⟨hrun, hno⟩ | ⟨v, hv, hrun⟩
      ·have hmet : metP x y sk = false := by
        cases hmm2 : metP x y sk with
        | false => rfl
        | true => exact absurd (keysD_yes hmm2) (hno _)
       have HNO := Aside0.mk hno
       have HEX : Aside0 (extK N1 N2 i na nb st (k + 1) = sk ++ [⟨x, y, k, i⟩]) := ⟨by
        show addK N1 N2 i na nb k (extK N1 N2 i na nb st k) = _
        rw [← HSK.out, addK, ← HXY.out.1, ← HXY.out.2, if_neg (by rw [hmet]; simp)]⟩
       clear hno hmet
       simp only [Bool.false_eq_true, if_false] at hrun
       go_upto_region 19 with fail
       clear hrun q0 q1
       have p0 : w6'.cell? ⟨bt2, 0, none⟩ = some (.int .i64 x) := (blk_cell HQt.out 0).trans rfl
       have p1 : w6'.cell? ⟨bt2, 1, none⟩ = some (.int .i64 y) := (blk_cell HQt.out 1).trans rfl
       have p2 : w6'.cell? ⟨bt2, 2, none⟩ = some (.int .i64 i) := (blk_cell HQt.out 2).trans rfl
       have p3 : w6'.cell? ⟨bt2, 3, none⟩ = some (.int .i64 k) := (blk_cell HQt.out 3).trans rfl
       go_wp2_with ((with_reducible refine gate_builtin (b := .append) (xs := #[.tmp 114, .tmp 116]) rfl ?_); at_builtin; refine Kd.R_append k102 (w0 := w) w.heap.size rfl (.tmp 114) (.tmp 116) 103 102 (.agg #[.int .i64 0, .int .i64 0, .int .i64 0, .int .i64 0]) 32 rfl Tryd.underlying103 info102' rfl (by decide) (by omega) (.slice (some ad) sk.length c11) (sk.map toD) (toD ⟨x, y, k, i⟩) [.int .i64 x, .int .i64 y, .int .i64 i, .int .i64 k] (fun _ => True) (fun _ => False) rfl rfl ?aP (fun _ hk => hk.elim) ?aF ?aO ?aB ?aS ?aL ?_; (case aP => exact k102_mkM _ _ _ (toD ⟨x, y, k, i⟩)); (case aB => exact HP.out.below); (case aF => exact (fun _ _ => trivial)); (case aO => exact HP.out.steps); (case aS => exact HP.out.below.size); (case aL => rw [List.length_map]; have := HKN.out; have := HMe.out; have := HMM.out; omega); intro v8 w8 hoz hbz hgz hatz; have HP8 := Aside0.mk (HP.out.grown (st' := sk ++ [⟨x, y, k, i⟩]) (by rw [List.map_append]; exact hoz) hbz hgz); have HQ8 := Aside0.mk ((hgz.block _ (blk_lt HQp.out) (Kd.R_ne HP.out.steps HQp.out (by decide))).trans HQp.out); (clear hoz hbz hgz hatz p0 p1 p2 p3); (have q0 : w8.cell? ⟨bp, 0, none⟩ = some (.int .i64 x) := (blk_cell HQ8.out 0).trans rfl); (have q1 : w8.cell? ⟨bp, 1, none⟩ = some (.int .i64 y) := (blk_cell HQ8.out 1).trans rfl); (obtain ⟨w9, hrun2, hmap, hoth, hsz, hgr⟩ := HP8.out.map.store (val := .bool true) lawArr Tryd.underlying105 (by unfold maxLen; have := HKN.out; have := HMe.out; have := HMM.out; omega) HKY.out (plainElem_bool Tryd.underlying4 true) HNO.out); (have HPn := Aside0.mk (HP8.out.put (a := x) (b := y) (s := k) (f := i) hmap hoth hgr)); (clear hmap hoth hsz hgr))
       go_roundg (sn - (k + 1))
       case measure => omega
       case rel => exact ⟨k + 1, by omega, by omega, by go_num, ⟨by rw [HEX.out]; exact HPn.out⟩⟩
      ·obtain rfl : v = .bool true := hv.1
       have hmet : metP x y sk = true := by
        cases hmm2 : metP x y sk with
        | true => rfl
        | false => exact absurd hv (keysD_no hmm2 _)
       have HEX : Aside0 (extK N1 N2 i na nb st (k + 1) = sk) := ⟨by
        show addK N1 N2 i na nb k (extK N1 N2 i na nb st k) = _
        rw [← HSK.out, addK, ← HXY.out.1, ← HXY.out.2, if_pos hmet]⟩
       simp only [Bool.false_eq_true, if_false] at hrun
       clear hv hmet
       go_wp2_with fail
       go_roundg (sn - (k + 1))
       case measure => omega
       case rel => exact ⟨k + 1, by omega, by omega, by go_num, ⟨by rw [HEX.out]; exact HP.out⟩⟩
     ·have hltz2 : ¬ (k : Int) < (sn : Int) := by omega
      obtain rfl : sn = k := by omega
      have HNX : Aside0 (stAt N1 N2 sn m1 m2 (i + 1) = extK N1 N2 i na nb st sn) := ⟨by
       show extK N1 N2 i ((stAt N1 N2 sn m1 m2 i).getD i z4).a ((stAt N1 N2 sn m1 m2 i).getD i z4).b (stAt N1 N2 sn m1 m2 i) sn = _
       rw [← HST.out, HNA.out.1, HNA.out.2.1]⟩
      have HGN : Aside0 (Good N1.length N2.length (stAt N1 N2 sn m1 m2 (i + 1))) := ⟨by rw [HNX.out]; exact HG.out.ext HR.out.1 HR.out.2 rfl rfl hlt ⟨by omega, by have := HNA.out.2.2.1; omega⟩ ⟨by omega, by have := HNA.out.2.2.2; omega⟩ sn (Nat.le_refl _)⟩
      have HLN : Aside0 (i + 1 ≤ (stAt N1 N2 sn m1 m2 (i + 1)).length) := ⟨by rw [HNX.out]; have := extK_len N1 N2 i na nb st sn; omega⟩
      have HDN : Aside0 (∀ j < i + 1, j < (stAt N1 N2 sn m1 m2 j).length ∧ diffP O1 O2 ((stAt N1 N2 sn m1 m2 j).getD j z4) = false) := ⟨fun j hj => by
       rcases Nat.lt_or_ge j i with hji | hji
       ·exact HD.out j hji
       ·obtain rfl : j = i := by omega
        rw [← HST.out]
        exact ⟨hlt, by rw [HDF.out]; rfl⟩⟩
      have HBM : Aside0 (i < M) := ⟨by have := HBN.out; have := HMe.out; omega⟩
      have hi2 : i < 1099511627776 := by have := HBM.out; have := HMM.out; omega
      go_wp2_with fail
      go_roundg (M - (i + 1))
      case measure => have := HBM.out; omega
      case rel => exact ⟨i + 1, by omega, by go_num, ⟨by rw [HNX.out]; exact HP.out⟩, HGN, HLN, HDN⟩
  ·have hltz : ¬ (i : Int) < (st.length : Int) := by omega
   go_wp2_with fail
   go_ret3
   exact ApPostD.mk _ [] false rfl (Kd.R_nil _ _ _ _ _) HP.out.below (ApR.no (i := i) HD.out (by rw [← HST.out]; have := HI.out; omega))
end Go.Proofs.YtfonajakaimnoaaDoor.C13

namespace Go.Proofs.YtfonajakaimnoaaDoor.C13
open Go.RowKit Go.Proofs.YtfonajakaimnoaaDoorW.PrintWords Go.Proofs.YtfonajakaimnoaaDoorW.PrintLast Go.Proofs.YtfonajakaimnoaaDoorW.PrintMore Go.Proofs.YtfonajakaimnoaaDoor.Lib Lent Go.Proofs.YtfonajakaimnoaaDoor.Fn Go.Proofs.YtfonajakaimnoaaDoor.C11 Go.Proofs.YtfonajakaimnoaaDoor.Lend Go.Proofs.YtfonajakaimnoaaDoor.C14
set_option linter.unusedVariables false
set_option linter.unusedSimpArgs false
attribute [local go_sem] max2_int min2_int max_two min_two max_three min_three max_four min_four
def APost (w : World) (s1 : Int) (N1 O1 : LL) (s2 : Int) (N2 O2 : LL) (sy : Int) (E : Int → Value) (e : Ending) (w' : World) : Prop :=
 ∃ (v : Value) (word : List Int) (b : Bool) (r : Int), e = .returned (.tuple #[v, .bool b, E r]) ∧ Kd.R kI 3 w' w.heap.size (fun _ => True) v word ∧ Below w.heap.size w w' ∧ ApartS s1 N1 O1 s2 N2 O2 sy word b r
theorem APost.mk {w w' : World} {s1 : Int} {N1 O1 : LL} {s2 : Int} {N2 O2 : LL} {sy : Int} {E : Int → Value} {e : Ending} (v : Value) (word : List Int) (b : Bool) (r : Int) (h1 : e = .returned (.tuple #[v, .bool b, E r])) (h2 : Kd.R kI 3 w' w.heap.size (fun _ => True) v word) (h3 : Below w.heap.size w w') (h4 : ApartS s1 N1 O1 s2 N2 O2 sy word b r) : APost w s1 N1 O1 s2 N2 O2 sy E e w' := ⟨v, word, b, r, h1, h2, h3, h4⟩
theorem ApartS.bad {s1 : Int} {N1 O1 : LL} {s2 : Int} {N2 O2 : LL} {sy : Int} (h : (mayB s1 N1 O1 sy && mayB s2 N2 O2 sy) = false) : ApartS s1 N1 O1 s2 N2 O2 sy [] false 1 := by
 unfold ApartS
 rw [if_neg (by rw [h]; simp)]
 exact ⟨rfl, rfl, rfl⟩
section
variable {s1 s2 sy : Int} {A0 : Option Addr} {c0 : Nat} {N1 : LL} {A1 : Option Addr} {c1 : Nat} {O1 : LL} {A2 : Option Addr} {c2 : Nat} {N2 : LL} {A3 : Option Addr} {c3 : Nat} {O2 : LL} {w : World} {a0 a1 a2 : Addr}
set_option maxHeartbeats 2000000 in
set_option maxRecDepth 100000 in
theorem apart_calls (h1 : Mc A0 c0 N1 A1 c1 O1 w) (h2 : Mc A2 c2 N2 A3 c3 O2 w) (hS : Sen a0 a1 a2 w) (hb : N1.length ≤ 1048576 ∧ N2.length ≤ 1048576) :
  Calls Tryd.prog 13 #[.agg #[.int .i64 s1, .slice A0 N1.length c0, .slice A1 O1.length c1], .agg #[.int .i64 s2, .slice A2 N2.length c2, .slice A3 O2.length c3], .int .i64 sy] w (APost w s1 N1 O1 s2 N2 O2 sy (errI (errV a0))) := by
 cases q1 : mayB s1 N1 O1 sy with
 | true =>
  cases q2 : mayB s2 N2 O2 sy with
  | true =>
   obtain ⟨hsy, _, _, hs1, _⟩ := may_open q1
   obtain ⟨_, _, _, hs2, _⟩ := may_open q2
   obtain ⟨sn, rfl⟩ : ∃ n : Nat, sy = n := ⟨sy.toNat, by omega⟩
   obtain ⟨m1, rfl⟩ : ∃ n : Nat, s1 = n := ⟨s1.toNat, by omega⟩
   obtain ⟨m2, rfl⟩ : ∃ n : Nat, s2 = n := ⟨s2.toNat, by omega⟩
   refine (apart_ok_calls h1 h2 q1 q2 hb).mono ?_
   rintro e w' ⟨v, word, b, rfl, hr, hbl, hap⟩
   refine APost.mk v word b 0 rfl hr hbl ?_
   unfold ApartS
   rw [q1, q2, if_pos (show (true && true) = true from rfl), Int.toNat_natCast]
   exact ⟨hap, rfl⟩
  | false =>
   have hu := Tryd.underlying24
   have HQ := Aside0.mk (And.intro q1 q2)
   have H1 := Aside0.mk h1
   have H2 := Aside0.mk h2
   have HS := Aside0.mk hS
   clear q1 q2 h1 h2 hS hb
   go_enter Tryd.func13, Tryd.ntmps13
   go_wp2_with fail
   have HB := Aside0.mk (below_alloc (below_alloc (Below.refl w.heap.size w) (.cells #[.int .i64 s1, .slice A0 N1.length c0, .slice A1 O1.length c1] 24)) (.cells #[.int .i64 s2, .slice A2 N2.length c2, .slice A3 O2.length c3] 24))
   have HXB : Aside0 (((w.alloc (.cells #[.int .i64 s1, .slice A0 N1.length c0, .slice A1 O1.length c1] 24)).alloc (.cells #[.int .i64 s2, .slice A2 N2.length c2, .slice A3 O2.length c3] 24)).heap[w.heap.size + 1]? = some (.cells #[.int .i64 s2, .slice A2 N2.length c2, .slice A3 O2.length c3] 24 (0, 0))) := ⟨by have := heap_alloc_new (w.alloc (.cells #[.int .i64 s1, .slice A0 N1.length c0, .slice A1 O1.length c1] 24)) (.cells #[.int .i64 s2, .slice A2 N2.length c2, .slice A3 O2.length c3] 24); simpa using this⟩
   refine (mayBe_calls (H1.out.below HB.out) sy).mono ?_
   rintro e w1 ⟨he, hb⟩
   rw [HQ.out.1] at he
   subst he
   replace HXB := Aside0.mk ((hb.block _ (blk_lt HXB.out)).trans HXB.out)
   replace HB := Aside0.mk (below_step HB.out hb)
   clear hb
   have y0 : w1.cell? ⟨w.heap.size + 1, 0, none⟩ = some (.int .i64 s2) := (blk_cell HXB.out 0).trans rfl
   have y1 : w1.cell? ⟨w.heap.size + 1, 1, none⟩ = some (.slice A2 N2.length c2) := (blk_cell HXB.out 1).trans rfl
   have y2 : w1.cell? ⟨w.heap.size + 1, 2, none⟩ = some (.slice A3 O2.length c3) := (blk_cell HXB.out 2).trans rfl
   go_wp2_with fail
   refine (mayBe_calls (H2.out.below HB.out) sy).mono ?_
   rintro e w2 ⟨he, hb⟩
   rw [HQ.out.2] at he
   subst he
   replace HB := Aside0.mk (below_step HB.out hb)
   clear hb y0 y1 y2
   have g0 : w2.cell? ⟨0, 0, none⟩ = some (errV a0) := (HS.out.step HB.out).h0
   go_wp2_with fail
   repeat (go_quiet (fail); try go_wp2)
   go_ret3
   exact APost.mk _ [] false 1 rfl (Kd.R_nil _ _ _ _ _) (by repeat (first | exact HB.out | apply pw_below_drewN | apply below_drew1)) (ApartS.bad (by rw [HQ.out.1, HQ.out.2]; rfl))
 | false =>
  have hu := Tryd.underlying24
  have HQ := Aside0.mk q1
  have H1 := Aside0.mk h1
  have HS := Aside0.mk hS
  clear q1 h1 h2 hS hb
  go_enter Tryd.func13, Tryd.ntmps13
  go_wp2_with fail
  have HB := Aside0.mk (below_alloc (below_alloc (Below.refl w.heap.size w) (.cells #[.int .i64 s1, .slice A0 N1.length c0, .slice A1 O1.length c1] 24)) (.cells #[.int .i64 s2, .slice A2 N2.length c2, .slice A3 O2.length c3] 24))
  refine (mayBe_calls (H1.out.below HB.out) sy).mono ?_
  rintro e w2 ⟨he, hb⟩
  rw [HQ.out] at he
  subst he
  replace HB := Aside0.mk (below_step HB.out hb)
  clear hb
  have g0 : w2.cell? ⟨0, 0, none⟩ = some (errV a0) := (HS.out.step HB.out).h0
  go_wp2_with fail
  repeat (go_quiet (fail); try go_wp2)
  go_ret3
  exact APost.mk _ [] false 1 rfl (Kd.R_nil _ _ _ _ _) (by repeat (first | exact HB.out | apply pw_below_drewN | apply below_drew1)) (ApartS.bad (by rw [HQ.out]; rfl))
set_option maxHeartbeats 2000000 in
set_option maxRecDepth 100000 in
theorem refApart_calls (h1 : Mc A0 c0 N1 A1 c1 O1 w) (h2 : Mc A2 c2 N2 A3 c3 O2 w) (hb : N1.length ≤ 1048576 ∧ N2.length ≤ 1048576) :
  Calls Tryd.prog 15 #[.agg #[.int .i64 s1, .slice A0 N1.length c0, .slice A1 O1.length c1], .agg #[.int .i64 s2, .slice A2 N2.length c2, .slice A3 O2.length c3], .int .i64 sy] w (APost w s1 N1 O1 s2 N2 O2 sy (fun r => .int .i64 r)) := by
 have main : ∀ q1 q2, mayB s1 N1 O1 sy = q1 → mayB s2 N2 O2 sy = q2 → (q1 && q2) = false → Calls Tryd.prog 15 #[.agg #[.int .i64 s1, .slice A0 N1.length c0, .slice A1 O1.length c1], .agg #[.int .i64 s2, .slice A2 N2.length c2, .slice A3 O2.length c3], .int .i64 sy] w (APost w s1 N1 O1 s2 N2 O2 sy (fun r => .int .i64 r)) := by
  intro q1 q2 e1 e2 e3
  have hu := Tryd.underlying24
  have HQ := Aside0.mk (And.intro e1 (And.intro e2 e3))
  have H1 := Aside0.mk h1
  have H2 := Aside0.mk h2
  clear e1 e2 e3 h1 h2 hb
  go_enter Tryd.func15, Tryd.ntmps15
  go_wp2_with fail
  have HB := Aside0.mk (below_alloc (below_alloc (Below.refl w.heap.size w) (.cells #[.int .i64 s1, .slice A0 N1.length c0, .slice A1 O1.length c1] 24)) (.cells #[.int .i64 s2, .slice A2 N2.length c2, .slice A3 O2.length c3] 24))
  have HXB : Aside0 (((w.alloc (.cells #[.int .i64 s1, .slice A0 N1.length c0, .slice A1 O1.length c1] 24)).alloc (.cells #[.int .i64 s2, .slice A2 N2.length c2, .slice A3 O2.length c3] 24)).heap[w.heap.size + 1]? = some (.cells #[.int .i64 s2, .slice A2 N2.length c2, .slice A3 O2.length c3] 24 (0, 0))) := ⟨by have := heap_alloc_new (w.alloc (.cells #[.int .i64 s1, .slice A0 N1.length c0, .slice A1 O1.length c1] 24)) (.cells #[.int .i64 s2, .slice A2 N2.length c2, .slice A3 O2.length c3] 24); simpa using this⟩
  refine (refMay_calls (H1.out.below HB.out) sy).mono ?_
  rintro e w1 ⟨he, hb⟩
  rw [HQ.out.1] at he
  subst he
  replace HXB := Aside0.mk ((hb.block _ (blk_lt HXB.out)).trans HXB.out)
  replace HB := Aside0.mk (below_step HB.out hb)
  clear hb
  have y0 : w1.cell? ⟨w.heap.size + 1, 0, none⟩ = some (.int .i64 s2) := (blk_cell HXB.out 0).trans rfl
  have y1 : w1.cell? ⟨w.heap.size + 1, 1, none⟩ = some (.slice A2 N2.length c2) := (blk_cell HXB.out 1).trans rfl
  have y2 : w1.cell? ⟨w.heap.size + 1, 2, none⟩ = some (.slice A3 O2.length c3) := (blk_cell HXB.out 2).trans rfl
  go_wp2_with fail
  refine (refMay_calls (H2.out.below HB.out) sy).mono ?_
  rintro e w2 ⟨he, hb⟩
  rw [HQ.out.2.1] at he
  subst he
  replace HB := Aside0.mk (below_step HB.out hb)
  clear hb y0 y1 y2
  cases q1 with
  | false =>
   go_wp2_with fail
   go_ret3
   exact APost.mk _ [] false 1 rfl (Kd.R_nil _ _ _ _ _) HB.out (ApartS.bad (by rw [HQ.out.1]; rfl))
  | true =>
   cases q2 with
   | false =>
    go_wp2_with fail
    go_ret3
    exact APost.mk _ [] false 1 rfl (Kd.R_nil _ _ _ _ _) HB.out (ApartS.bad (by rw [HQ.out.1, HQ.out.2.1]; rfl))
   | true => exact absurd HQ.out.2.2 (by simp)
 cases q1 : mayB s1 N1 O1 sy with
 | true =>
  cases q2 : mayB s2 N2 O2 sy with
  | true =>
   obtain ⟨hsy, _, _, hs1, _⟩ := may_open q1
   obtain ⟨_, _, _, hs2, _⟩ := may_open q2
   clear main
   obtain ⟨sn, rfl⟩ : ∃ n : Nat, sy = n := ⟨sy.toNat, by omega⟩
   obtain ⟨m1, rfl⟩ : ∃ n : Nat, s1 = n := ⟨s1.toNat, by omega⟩
   obtain ⟨m2, rfl⟩ : ∃ n : Nat, s2 = n := ⟨s2.toNat, by omega⟩
   refine (refApart_ok_calls h1 h2 q1 q2 hb).mono ?_
   rintro e w' ⟨v, word, b, rfl, hr, hbl, hap⟩
   refine APost.mk v word b 0 rfl hr hbl ?_
   unfold ApartS
   rw [q1, q2, if_pos (show (true && true) = true from rfl), Int.toNat_natCast]
   exact ⟨hap, rfl⟩
  | false => exact main true false q1 q2 rfl
 | false => exact main false (mayB s2 N2 O2 sy) q1 rfl rfl
end
end Go.Proofs.YtfonajakaimnoaaDoor.C13

namespace Go.Proofs.YtfonajakaimnoaaDoor.C13
open Go.RowKit Go.Proofs.YtfonajakaimnoaaDoorW.PrintWords Go.Proofs.YtfonajakaimnoaaDoorW.PrintLast Go.Proofs.YtfonajakaimnoaaDoorW.PrintMore Go.Proofs.YtfonajakaimnoaaDoor.Lib Lent Go.Proofs.YtfonajakaimnoaaDoor.Fn Go.Proofs.YtfonajakaimnoaaDoor.C11 Go.Proofs.YtfonajakaimnoaaDoor.Lend Go.Proofs.YtfonajakaimnoaaDoor.C14
set_option linter.unusedVariables false
set_option linter.unusedSimpArgs false
attribute [local go_sem] max2_int min2_int max_two min_two max_three min_three max_four min_four
theorem S_put {W : World} {base : Nat} {ok : Nat → Prop} {g n cap : Nat} {xs : List (List Int × List Int)} (h : Kd.S kM 25 W base ok (.slice (some ⟨g, 0, none⟩) n cap) xs) {i : Nat} {x ms : List Int} (hx : xs[i]? = some (x, ms)) (hp : 0 < x.length) :
  ∃ gx c', W.cell? ⟨g, i, none⟩ = some (.slice (some ⟨gx, 0, none⟩) x.length c') ∧ ok gx ∧ gx ≠ g ∧ ∀ k, k < x.length → (∃ y, x[k]? = some y ∧ W.cell? ⟨gx, k, none⟩ = some (.int .i64 y)) ∧ W.frozen? ⟨gx, k, none⟩ = false ∧
   ∀ v, Kd.S kM 25 (W.setCell ⟨gx, k, none⟩ (.int .i64 v)) base ok (.slice (some ⟨g, 0, none⟩) n cap) (xs.set i (x.set k v, ms)) := by
 have hn := (Kd.S_reads' h).1
 have hil := (List.getElem?_eq_some_iff.1 hx).1
 obtain ⟨oki, c, _, hM, hcc, hoki, hH⟩ := Kd.S_lend h ([], []) (i : Int) (by omega) (by omega)
 rw [Int.toNat_natCast] at hM hcc
 have hg : xs.getD i ([], []) = (x, ms) := by rw [List.getD_eq_getElem?_getD, hx]; rfl
 rw [hg] at hM
 obtain ⟨A', c', rfl, hR⟩ := hM
 have hcell := hcc 0 _ rfl
 rw [show i * kM.sz + 0 = i from Nat.mul_one _] at hcell
 obtain ⟨gx, cap', e', _, _, _⟩ := Kd.R_form hR (by rw [List.length_append]; show 0 < x.length + ms.length; omega)
 have hA : A' = some ⟨gx, 0, none⟩ := by injection e'
 subst hA
 have hok : oki gx := hR.1 gx (by simp [Value.ownBlock])
 refine ⟨gx, c', hcell, (hoki gx hok).1, (hoki gx hok).2, fun k hk => ?_⟩
 have hkl : (k : Int) < ((x ++ ms).length : Int) := by rw [List.length_append]; omega
 have hc := Kd.R_cell (d := 0) hR (k : Int) (by omega) hkl
 rw [Int.toNat_natCast] at hc
 refine ⟨⟨x[k], List.getElem?_eq_getElem hk, ?_⟩, hc.2, fun v => ?_⟩
 ·rw [hc.1]
  unfold rdOf
  rw [Int.toNat_natCast, List.getD_eq_getElem?_getD, List.getElem?_append_left hk, List.getElem?_eq_getElem hk]
  rfl
 ·have hp2 := (Kd.R_put hR (k : Int) v).1
  rw [Int.toNat_natCast, List.set_append_left _ _ hk] at hp2
  have hH' := Kd.H_step (w1 := W.setCell ⟨gx, k, none⟩ (.int .i64 v)) hH (fun j _ hn _ => Below.heap_setCell W ⟨gx, k, none⟩ _ j (fun e => hn (by rw [show j = gx from e]; exact hok)))
  have := Kd.H_back hH' (x' := (x.set k v, ms)) (okp := oki) ⟨some ⟨gx, 0, none⟩, c', by rw [List.length_set], by
   show Kd.R kI 3 _ base oki (.slice (some ⟨gx, 0, none⟩) (x.set k v ++ ms).length c') (x.set k v ++ ms)
   rw [show (x.set k v ++ ms).length = (x ++ ms).length by simp]
   exact hp2⟩ (fun _ hk => hk)
  rwa [Int.toNat_natCast] at this
set_option maxHeartbeats 2000000 in
set_option maxRecDepth 10000 in
theorem kept_calls {base h0 h1 h2 : Nat} {s0 : Int} {Z0 : Option Addr} {e0 : Nat} {N : LL} {Z1 : Option Addr} {e1 : Nat} {O : LL} {A0 : Option Addr} {c0 : Nat} {A1 : Option Addr} {c1 : Nat} {w : World} (h : MQ base h0 h1 h2 Z0 e0 N Z1 e1 O w) (h' : Mc A0 c0 N A1 c1 O w) (hb : N.length ≤ 5000000000000 ∧ O.length ≤ 5000000000000)
  (hr : (∀ l ∈ N, l.length ≤ 17000000000000) ∧ (∀ l ∈ O, l.length ≤ 17000000000000)) :
  Calls Tryd.prog 14 #[.agg #[.int .i64 s0, .slice Z0 N.length e0, .slice Z1 O.length e1], .agg #[.int .i64 s0, .slice A0 N.length c0, .slice A1 O.length c1]] w fun e w' => e = .returned (.bool true) ∧ Below w.heap.size w w' := by
 have hu := Tryd.underlying24
 have H := Aside0.mk h
 have H' := Aside0.mk h'
 have HN := Aside0.mk (And.intro hb hr)
 clear h h' hb hr
 go_enter Tryd.func14, Tryd.ntmps14
 go_wp2_with fail
 have HB : Aside0 (Below w.heap.size w ((w.alloc (.cells #[.int .i64 s0, .slice Z0 N.length e0, .slice Z1 O.length e1] 24)).alloc (.cells #[.int .i64 s0, .slice A0 N.length c0, .slice A1 O.length c1] 24))) := ⟨below_alloc (below_alloc (Below.refl w.heap.size w) _) _⟩
 have HXA : Aside0 (((w.alloc (.cells #[.int .i64 s0, .slice Z0 N.length e0, .slice Z1 O.length e1] 24)).alloc (.cells #[.int .i64 s0, .slice A0 N.length c0, .slice A1 O.length c1] 24)).heap[w.heap.size]? = some (.cells #[.int .i64 s0, .slice Z0 N.length e0, .slice Z1 O.length e1] 24 (0, 0))) := ⟨by rw [heap_alloc_old _ _ (by simp)]; exact heap_alloc_new _ _⟩
 have HXB : Aside0 (((w.alloc (.cells #[.int .i64 s0, .slice Z0 N.length e0, .slice Z1 O.length e1] 24)).alloc (.cells #[.int .i64 s0, .slice A0 N.length c0, .slice A1 O.length c1] 24)).heap[w.heap.size + 1]? = some (.cells #[.int .i64 s0, .slice A0 N.length c0, .slice A1 O.length c1] 24 (0, 0))) := ⟨by have := heap_alloc_new (w.alloc (.cells #[.int .i64 s0, .slice Z0 N.length e0, .slice Z1 O.length e1] 24)) (.cells #[.int .i64 s0, .slice A0 N.length c0, .slice A1 O.length c1] 24); simpa using this⟩
 obtain ⟨_, l0, k0⟩ := Kd.S_reads' (H.out.step HB.out).p0
 refine (still_calls Z0 e0 A0 c0 N _ k0 l0 (H'.out.below HB.out).n.1 H'.out.n.2 HN.out.1.1 HN.out.2.1).mono ?_
 rintro e w1 ⟨rfl, hb⟩
 replace HXA := Aside0.mk ((hb.block _ (blk_lt HXA.out)).trans HXA.out)
 replace HXB := Aside0.mk ((hb.block _ (blk_lt HXB.out)).trans HXB.out)
 replace HB := Aside0.mk (below_step HB.out hb)
 clear hb l0 k0
 have x2 : w1.cell? ⟨w.heap.size, 2, none⟩ = some (.slice Z1 O.length e1) := (blk_cell HXA.out 2).trans rfl
 have y2 : w1.cell? ⟨w.heap.size + 1, 2, none⟩ = some (.slice A1 O.length c1) := (blk_cell HXB.out 2).trans rfl
 go_wp2_with fail
 obtain ⟨_, l0, k0⟩ := Kd.S_reads' (H.out.step HB.out).p1
 refine (still_calls Z1 e1 A1 c1 O _ k0 l0 (H'.out.below HB.out).o.1 H'.out.o.2 HN.out.1.2 HN.out.2.2).mono ?_
 rintro e w2 ⟨rfl, hb⟩
 replace HXA := Aside0.mk ((hb.block _ (blk_lt HXA.out)).trans HXA.out)
 replace HXB := Aside0.mk ((hb.block _ (blk_lt HXB.out)).trans HXB.out)
 replace HB := Aside0.mk (below_step HB.out hb)
 clear hb l0 k0 x2 y2
 have x0 : w2.cell? ⟨w.heap.size, 0, none⟩ = some (.int .i64 s0) := (blk_cell HXA.out 0).trans rfl
 have y0 : w2.cell? ⟨w.heap.size + 1, 0, none⟩ = some (.int .i64 s0) := (blk_cell HXB.out 0).trans rfl
 go_wp2_with fail
 go_ret
 exact ⟨rfl, HB.out⟩
end Go.Proofs.YtfonajakaimnoaaDoor.C13

namespace Go.Proofs.YtfonajakaimnoaaDoor.C13
open Go.RowKit Go.Proofs.YtfonajakaimnoaaDoorW.PrintWords Go.Proofs.YtfonajakaimnoaaDoorW.PrintLast Go.Proofs.YtfonajakaimnoaaDoorW.PrintMore Go.Proofs.YtfonajakaimnoaaDoor.Lib Lent Go.Proofs.YtfonajakaimnoaaDoor.Fn Go.Proofs.YtfonajakaimnoaaDoor.C11 Go.Proofs.YtfonajakaimnoaaDoor.Lend Go.Proofs.YtfonajakaimnoaaDoor.C14
set_option linter.unusedVariables false
set_option linter.unusedSimpArgs false
attribute [local go_sem] max2_int min2_int max_two min_two max_three min_three max_four min_four
def td.T7 : Bool × List (List Nat × List Nat) := (true, [([], []), ([0], [0]), ([], []), ([1, 2], [1, 2]), ([3], [3]), ([], []), ([], []), ([], []), ([7], [7]), ([8], [8]), ([6, 9], [6, 9]), ([4, 5, 0, 1, 2, 3, 4, 5, 6, 7, 8, 9, 10], [4, 5]), ([11, 10, 0, 1, 2, 3, 4, 5, 6, 7, 8, 9, 10], [10, 11])])
def td.B7 : List Nat := [0, 1, 0, 7, 15, 0, 0, 0, 128, 384, 960, 2047, 4095]
theorem td.tab7 : rtab .any (opsOf Tryd.f19 7) = td.T7 := by kernel_rfl
theorem td.bits7 : waitsOk td.T7.2 td.B7 = true := by kernel_rfl
def rowF (f : Nat → Int) (x : List Int) (k : Nat) : List Int := (List.range k).map f ++ x.drop k
theorem rowF_zero (f : Nat → Int) (x : List Int) : rowF f x 0 = x := by simp [rowF]
theorem rowF_len (f : Nat → Int) (x : List Int) {k : Nat} (h : k ≤ x.length) : (rowF f x k).length = x.length := by simp [rowF]; omega
theorem rowF_set (f : Nat → Int) (x : List Int) {k : Nat} (h : k < x.length) : (rowF f x k).set k (f k) = rowF f x (k + 1) := by
 unfold rowF
 rw [List.drop_eq_getElem_cons h, List.set_append_right _ _ (by simp), show k - ((List.range k).map f).length = 0 by simp, List.set_cons_zero, List.range_succ, List.map_append, List.append_assoc]
 rfl
theorem set_self {α : Type} {l : List α} {i : Nat} {x : α} (h : l[i]? = some x) : l.set i x = l := by
 obtain ⟨hl, rfl⟩ := List.getElem?_eq_some_iff.1 h
 exact List.set_getElem_self hl
def rowsF (f : Nat → Nat → Int) (L : LL) (i : Nat) : LL := (L.take i).zipIdx.map (fun p => rowF (f p.2) p.1 p.1.length) ++ L.drop i
theorem rowsF_zero (f : Nat → Nat → Int) (L : LL) : rowsF f L 0 = L := by simp [rowsF]
theorem rowsF_len (f : Nat → Nat → Int) (L : LL) (i : Nat) : (rowsF f L i).length = L.length := by simp [rowsF]; omega
theorem rowsF_get (f : Nat → Nat → Int) (L : LL) {i : Nat} (h : i < L.length) : (rowsF f L i)[i]? = some L[i] := by
 unfold rowsF
 rw [List.getElem?_append_right (by simp; omega)]
 simp only [List.length_map, List.length_zipIdx, List.length_take]
 rw [show i - min i L.length = 0 by omega, List.getElem?_drop]
 simp [List.getElem?_eq_getElem h]
theorem rowsF_set (f : Nat → Nat → Int) (L : LL) {i : Nat} (h : i < L.length) : (rowsF f L i).set i (rowF (f i) L[i] L[i].length) = rowsF f L (i + 1) := by
 unfold rowsF
 rw [List.drop_eq_getElem_cons h, List.set_append_right _ _ (by simp; omega), show i - ((L.take i).zipIdx.map (fun p => rowF (f p.2) p.1 p.1.length)).length = 0 by simp; omega, List.set_cons_zero, List.take_add_one, List.getElem?_eq_getElem h, List.zipIdx_append, List.map_append, List.append_assoc]
 simp only [List.length_take]
 rw [Nat.min_eq_left (by omega)]
 congr 1
 simp
theorem rows64_set (L : LL) {i : Nat} (h : i < L.length) (y : List Int) : (rows64 L).set i (y, mk64) = rows64 (L.set i y) := by
 unfold rows64 withM
 rw [List.set_append_left _ _ (by simpa using h), List.map_set]
def fN (n : Nat) (_ : Nat) (k : Nat) : Int := (k : Int).tmod (n : Int)
def fO (i : Nat) (k : Nat) : Int := (k : Int) + (i : Int) % 3
theorem S_head {W : World} {base : Nat} {ok : Nat → Prop} {g n cap : Nat} {xs : List (List Int × List Int)} (h : Kd.S kM 25 W base ok (.slice (some ⟨g, 0, none⟩) n cap) xs) {i : Nat} {x ms : List Int} (hx : xs[i]? = some (x, ms)) : ∃ A' c', W.cell? ⟨g, i, none⟩ = some (.slice A' x.length c') := by
 have hn := (Kd.S_reads' h).1
 have hil := (List.getElem?_eq_some_iff.1 hx).1
 obtain ⟨oki, c, _, hM, hcc, _, _⟩ := Kd.S_lend h ([], []) (i : Int) (by omega) (by omega)
 rw [Int.toNat_natCast] at hM hcc
 have hg : xs.getD i ([], []) = (x, ms) := by rw [List.getD_eq_getElem?_getD, hx]; rfl
 rw [hg] at hM
 obtain ⟨A', c', rfl, hR⟩ := hM
 have hcell := hcc 0 _ rfl
 rw [show i * kM.sz + 0 = i from Nat.mul_one _] at hcell
 exact ⟨A', c', hcell⟩
theorem rows64_at {L : LL} {i : Nat} {x : List Int} (h : L[i]? = some x) : (rows64 L)[i]? = some (x, mk64) := by
 have hl := (List.getElem?_eq_some_iff.1 h).1
 rw [rows64_get hl]
 rw [List.getElem?_eq_getElem hl] at h
 injection h with h
 rw [h]
structure TD (w : World) (CE : Array Value) (base h0 h1 h2 gz e0 gy e1 : Nat) (N O : LL) (W : World) : Prop where
 mq : MQ base h0 h1 h2 (some ⟨gz, 0, none⟩) e0 N (some ⟨gy, 0, none⟩) e1 O W
 below : Below h0 w W
 keep : ∀ k, h2 ≤ k → k < w.heap.size → W.heap[k]? = w.heap[k]?
 box : W.heap[w.heap.size]? = some (.cells CE 24 (0, 0))
 sz : h2 ≤ w.heap.size
section
variable {w : World} {CE : Array Value} {base h0 h1 h2 gz e0 gy e1 : Nat} {N O : LL} {W : World}
theorem TD.step {W' : World} (h : TD w CE base h0 h1 h2 gz e0 gy e1 N O W) (hb : Below W.heap.size W W') : TD w CE base h0 h1 h2 gz e0 gy e1 N O W' := by
 have ho := h.mq.o
 have hlt := blk_lt h.box
 exact ⟨h.mq.step hb, h.below.trans (hb.mono (by omega)), fun k hk hk2 => (hb.block k (by omega)).trans (h.keep k hk hk2), (hb.block _ hlt).trans h.box, h.sz⟩
theorem TD.put0 {gx : Nat} {N' : LL} {u : Value} {k : Nat} (h : TD w CE base h0 h1 h2 gz e0 gy e1 N O W) (hg : rng h0 h1 gx) (hs : Kd.S kM 25 (W.setCell ⟨gx, k, none⟩ u) base (rng h0 h1) (.slice (some ⟨gz, 0, none⟩) (rows64 N).length e0) (rows64 N')) (hl : N'.length = N.length) : TD w CE base h0 h1 h2 gz e0 gy e1 N' O (W.setCell ⟨gx, k, none⟩ u) := by
 have ho := h.mq.o
 have far : ∀ j, j ≠ gx → (W.setCell ⟨gx, k, none⟩ u).heap[j]? = W.heap[j]? := fun j hj => Below.heap_setCell W ⟨gx, k, none⟩ _ j hj
 obtain ⟨g1, g2⟩ := hg
 have hz := h.sz
 refine ⟨⟨?_, Kd.S_move h.mq.p1 (fun j hj => far j (by have := hj.1; omega)), by simpa [World.setCell] using ho⟩, h.below.setCell (by show h0 ≤ gx; omega) _, fun j hj hj2 => (far j (by omega)).trans (h.keep j hj hj2), (far _ (by omega)).trans h.box, h.sz⟩
 rw [rows64_length] at hs ⊢
 rw [hl]
 exact hs
theorem TD.put1 {gx : Nat} {O' : LL} {u : Value} {k : Nat} (h : TD w CE base h0 h1 h2 gz e0 gy e1 N O W) (hg : rng h1 h2 gx) (hs : Kd.S kM 25 (W.setCell ⟨gx, k, none⟩ u) base (rng h1 h2) (.slice (some ⟨gy, 0, none⟩) (rows64 O).length e1) (rows64 O')) (hl : O'.length = O.length) : TD w CE base h0 h1 h2 gz e0 gy e1 N O' (W.setCell ⟨gx, k, none⟩ u) := by
 have ho := h.mq.o
 have far : ∀ j, j ≠ gx → (W.setCell ⟨gx, k, none⟩ u).heap[j]? = W.heap[j]? := fun j hj => Below.heap_setCell W ⟨gx, k, none⟩ _ j hj
 obtain ⟨g1, g2⟩ := hg
 have hz := h.sz
 refine ⟨⟨Kd.S_move h.mq.p0 (fun j hj => far j (by have := hj.2; omega)), ?_, by simpa [World.setCell] using ho⟩, h.below.setCell (by show h0 ≤ gx; omega) _, fun j hj hj2 => (far j (by omega)).trans (h.keep j hj hj2), (far _ (by omega)).trans h.box, h.sz⟩
 rw [rows64_length] at hs ⊢
 rw [hl]
 exact hs
end
set_option maxHeartbeats 4000000 in
set_option maxRecDepth 100000 in
theorem turned_calls' {base h0 h1 h2 gz e0 gy e1 : Nat} {s0 : Int} {N O : LL} {w : World} (h : MQ base h0 h1 h2 (some ⟨gz, 0, none⟩) e0 N (some ⟨gy, 0, none⟩) e1 O w) (hb : N.length ≤ 5000000000000 ∧ O.length ≤ 5000000000000)
  (hr : (∀ l ∈ N, l.length ≤ 17000000000000) ∧ (∀ l ∈ O, l.length ≤ 17000000000000)) :
  Calls Tryd.prog 19 #[.agg #[.int .i64 s0, .slice (some ⟨gz, 0, none⟩) N.length e0, .slice (some ⟨gy, 0, none⟩) O.length e1]] w fun e w' => e = .returned (.tuple #[]) ∧ MQ base h0 h1 h2 (some ⟨gz, 0, none⟩) e0 (rowsF (fN N.length) N N.length) (some ⟨gy, 0, none⟩) e1 (rowsF fO O O.length) w' ∧ Below h0 w w' ∧ ∀ k, h2 ≤ k → k < w.heap.size → w'.heap[k]? = w.heap[k]? := by
 have hu := Tryd.underlying24
 have HN := Aside0.mk (And.intro hb hr)
 have H := Aside0.mk h
 obtain ⟨hb1, hb2⟩ := hb
 clear h hr
 go_enter Tryd.func19, Tryd.ntmps19
 go_wp2_with fail
 have HT : Aside0 (TD w #[.int .i64 s0, .slice (some ⟨gz, 0, none⟩) N.length e0, .slice (some ⟨gy, 0, none⟩) O.length e1] base h0 h1 h2 gz e0 gy e1 N O (w.alloc (.cells #[.int .i64 s0, .slice (some ⟨gz, 0, none⟩) N.length e0, .slice (some ⟨gy, 0, none⟩) O.length e1] 24))) :=
  ⟨⟨H.out.step (below_alloc (Below.refl _ _) _), (below_alloc (Below.refl w.heap.size w) _).mono (by have := H.out.o; omega), fun k _ hk => (below_alloc (Below.refl w.heap.size w) _).block k hk, heap_alloc_new _ _, H.out.o.2.2.2⟩⟩
 generalize World.alloc _ _ = w0 at HT ⊢
 go_loopg [2, 3] N.length (fun gg v2 _ wr => ∃ i : Nat, i ≤ N.length ∧ N.length - i ≤ gg ∧ v2 = .int .i64 i ∧ Aside0 (TD w #[.int .i64 s0, .slice (some ⟨gz, 0, none⟩) N.length e0, .slice (some ⟨gy, 0, none⟩) O.length e1] base h0 h1 h2 gz e0 gy e1 (rowsF (fN N.length) N i) O wr))
 case atStart => exact ⟨0, Nat.zero_le _, by omega, rfl, ⟨by rw [rowsF_zero]; exact HT.out⟩⟩
 case round =>
  clear HT
  obtain ⟨i, hi, hg, rfl, HT⟩ := hrel
  obtain ⟨wo, rfl⟩ : ∃ wo : World, wo = wr := ⟨_, rfl⟩
  have b1 : wo.cell? ⟨w.heap.size, 1, none⟩ = some (.slice (some ⟨gz, 0, none⟩) N.length e0) := (blk_cell HT.out.box 1).trans rfl
  by_cases hlt : i < N.length
  ·have hltz : (i : Int) < (N.length : Int) := by omega
   have HXR := Aside0.mk (rowsF_get (fN N.length) N hlt)
   have HXS := Aside0.mk (rowsF_set (fN N.length) N hlt)
   have HXL : Aside0 (N[i].length ≤ 17000000000000) := ⟨HN.out.2.1 _ (List.getElem_mem hlt)⟩
   generalize N[i] = x at HXR HXS HXL
   have hxl := HXL.out
   go_wp2_with fail
   clear b1
   go_loopg [3] x.length (fun gg v3 wr => ∃ k : Nat, k ≤ x.length ∧ x.length - k ≤ gg ∧ v3 = .int .i64 k ∧ Aside0 (TD w #[.int .i64 s0, .slice (some ⟨gz, 0, none⟩) N.length e0, .slice (some ⟨gy, 0, none⟩) O.length e1] base h0 h1 h2 gz e0 gy e1 ((rowsF (fN N.length) N i).set i (rowF (fN N.length i) x k)) O wr))
   case atStart => exact ⟨0, Nat.zero_le _, by omega, rfl, ⟨by rw [rowF_zero, set_self HXR.out]; exact HT.out⟩⟩
   case round =>
    clear HT
    obtain ⟨k, hk, hg2, rfl, HT⟩ := hrel
    obtain ⟨wq, rfl⟩ : ∃ wq : World, wq = wr := ⟨_, rfl⟩
    have b1 : wq.cell? ⟨w.heap.size, 1, none⟩ = some (.slice (some ⟨gz, 0, none⟩) N.length e0) := (blk_cell HT.out.box 1).trans rfl
    have hrow : ((rowsF (fN N.length) N i).set i (rowF (fN N.length i) x k))[i]? = some (rowF (fN N.length i) x k) := by rw [List.getElem?_set_self (by rw [rowsF_len]; exact hlt)]
    have hrl := rowF_len (fN N.length i) x hk
    by_cases hlt2 : k < x.length
    ·have hltz2 : (k : Int) < (x.length : Int) := by omega
     obtain ⟨gx', cx', hc1, _, _, _⟩ := S_put HT.out.mq.p0 (rows64_at hrow) (by rw [hrl]; omega)
     rw [hrl] at hc1
     go_upto_region 7 with fail
     clear hc1
     have hb := below_drew (Below.refl wq.heap.size wq)
     replace HT := Aside0.mk (HT.out.step hb)
     clear hb b1
     obtain ⟨gx, cx, hc1, hc2, hc3, hc4⟩ := S_put HT.out.mq.p0 (rows64_at hrow) (by rw [hrl]; omega)
     rw [hrl] at hc1 hc4
     obtain ⟨⟨yv, _, hc5⟩, hc6, hc7⟩ := hc4 k hlt2
     have HC := Aside0.mk (And.intro hc2 hc7)
     clear hc2 hc3 hc4 hc7
     refine start_ (n := 13) (S := fun w' => w'.cell? ⟨w.heap.size, 1, none⟩ = some (.slice (some ⟨gz, 0, none⟩) N.length e0) ∧ w'.cell? ⟨gz, i, none⟩ = some (.slice (some ⟨gx, 0, none⟩) x.length cx)) (ds := [12]) #[false, false, false, false, false, false, false, false, false, false, false, false, false] (by kernel_rfl) rfl rfl ⟨(blk_cell HT.out.box 1).trans rfl, hc1⟩ (fun hHeld => ?_)
     refine with_tabW td.tab7 td.bits7 (fun HT_ HW_ => ?_)
     generalize wq.drew = wn at HT HC hc1 hc5 hc6 hHeld ⊢
     have hn0 : (0 : Int) < (N.length : Int) := by omega
     have hNe : ¬ N = [] := fun e => by rw [e] at hlt; simp at hlt
     have hk0 : (0 : Int) ≤ (k : Int) := by omega
     refine pure_ (i := 0) (N := some 23) (v := ?_) (a' := ?_) #[true, false, false, false, false, false, false, false, false, false, false, false, false] rfl rfl (any_of HT_.out (by kernel_rfl)) (fun _ _ _ h => h) (Or.inl ⟨by rfl, ?_⟩) ?_ ?_
     rotate_left
     ·intro w'
      go_simp
      with_reducible rfl
     rotate_left
     ·simp only [Act.put, List.setIfInBounds_toArray, List.set_cons_zero, List.set_cons_succ, i64_w, i32_w]
      rfl
     refine take_ (i := 1) (N := some 24) (v := ?_) (a' := ?_) #[true, true, false, false, false, false, false, false, false, false, false, false, false] rfl rfl (take_ofW HT_.out HW_.out (by kernel_rfl)) (fun _ _ _ h => h) (Or.inl ⟨by rfl, ?_⟩) hHeld ?_ ?_
     rotate_left
     ·rintro w' ⟨s0, s1⟩
      go_simp
      with_reducible rfl
     rotate_left
     ·simp only [Act.put, List.setIfInBounds_toArray, List.set_cons_zero, List.set_cons_succ, i64_w, i32_w]
      rfl
     refine pure_ (i := 2) (N := some 25) (v := ?_) (a' := ?_) #[true, true, true, false, false, false, false, false, false, false, false, false, false] rfl rfl (any_of HT_.out (by kernel_rfl)) (fun _ _ _ h => h) (Or.inl ⟨by rfl, ?_⟩) ?_ ?_
     rotate_left
     ·intro w'
      go_simp
      with_reducible rfl
     rotate_left
     ·simp only [Act.put, List.setIfInBounds_toArray, List.set_cons_zero, List.set_cons_succ, i64_w, i32_w]
      rfl
     refine pure_ (i := 3) (N := some 26) (v := ?_) (a' := ?_) #[true, true, true, true, false, false, false, false, false, false, false, false, false] rfl rfl (any_of HT_.out (by kernel_rfl)) (fun _ _ _ h => h) (Or.inl ⟨by rfl, ?_⟩) ?_ ?_
     rotate_left
     ·intro w'
      go_simp
      with_reducible rfl
     rotate_left
     ·simp only [Act.put, List.setIfInBounds_toArray, List.set_cons_zero, List.set_cons_succ, i64_w, i32_w]
      rfl
     refine take_ (i := 4) (N := some 27) (v := ?_) (a' := ?_) #[true, true, true, true, true, false, false, false, false, false, false, false, false] rfl rfl (take_ofW HT_.out HW_.out (by kernel_rfl)) (fun _ _ _ h => h) (Or.inl ⟨by rfl, ?_⟩) hHeld ?_ ?_
     rotate_left
     ·rintro w' ⟨s0, s1⟩
      go_simp
      with_reducible rfl
     rotate_left
     ·simp only [Act.put, List.setIfInBounds_toArray, List.set_cons_zero, List.set_cons_succ, i64_w, i32_w]
      rfl
     refine pure_ (i := 5) (N := some 28) (v := ?_) (a' := ?_) #[true, true, true, true, true, true, false, false, false, false, false, false, false] rfl rfl (any_of HT_.out (by kernel_rfl)) (fun _ _ _ h => h) (Or.inl ⟨by rfl, ?_⟩) ?_ ?_
     rotate_left
     ·intro w'
      go_simp
      with_reducible rfl
     rotate_left
     ·simp only [Act.put, List.setIfInBounds_toArray, List.set_cons_zero, List.set_cons_succ, i64_w, i32_w]
      rfl
     refine pure_ (i := 6) (N := some 29) (v := ?_) (a' := ?_) #[true, true, true, true, true, true, true, false, false, false, false, false, false] rfl rfl (any_of HT_.out (by kernel_rfl)) (fun _ _ _ h => h) (Or.inl ⟨by rfl, ?_⟩) ?_ ?_
     rotate_left
     ·intro w'
      go_simp
      with_reducible rfl
     rotate_left
     ·simp only [Act.put, List.setIfInBounds_toArray, List.set_cons_zero, List.set_cons_succ, i64_w, i32_w]
      rfl
     refine pure_ (i := 7) (N := some 30) (v := ?_) (a' := ?_) #[true, true, true, true, true, true, true, true, false, false, false, false, false] rfl rfl (any_of HT_.out (by kernel_rfl)) (fun _ _ _ h => h) (Or.inl ⟨by rfl, ?_⟩) ?_ ?_
     rotate_left
     ·intro w'
      go_simp
      with_reducible rfl
     rotate_left
     ·simp only [Act.put, List.setIfInBounds_toArray, List.set_cons_zero, List.set_cons_succ, i64_w, i32_w]
      rfl
     refine take_ (i := 8) (N := some 31) (v := ?_) (a' := ?_) #[true, true, true, true, true, true, true, true, true, false, false, false, false] rfl rfl (take_ofW HT_.out HW_.out (by kernel_rfl)) (fun _ _ _ h => h) (Or.inl ⟨by rfl, ?_⟩) hHeld ?_ ?_
     rotate_left
     ·rintro w' ⟨s0, s1⟩
      go_simp
      with_reducible rfl
     rotate_left
     ·simp only [Act.put, List.setIfInBounds_toArray, List.set_cons_zero, List.set_cons_succ, i64_w, i32_w]
      rfl
     refine pure_ (i := 9) (N := some 32) (v := ?_) (a' := ?_) #[true, true, true, true, true, true, true, true, true, true, false, false, false] rfl rfl (any_of HT_.out (by kernel_rfl)) (fun _ _ _ h => h) (Or.inl ⟨by rfl, ?_⟩) ?_ ?_
     rotate_left
     ·intro w'
      go_simp
      with_reducible rfl
     rotate_left
     ·simp only [Act.put, List.setIfInBounds_toArray, List.set_cons_zero, List.set_cons_succ, i64_w, i32_w]
      rfl
     refine pure_ (i := 10) (N := some 33) (v := .int .i64 (fN N.length i k)) (a' := ?_) #[true, true, true, true, true, true, true, true, true, true, true, false, false] rfl rfl (any_of HT_.out (by kernel_rfl)) (fun _ _ _ h => h) (Or.inl ⟨by rfl, ?_⟩) ?_ ?_
     ·intro w'
      go_simp
      rfl
     rotate_left
     ·simp only [Act.put, List.setIfInBounds_toArray, List.set_cons_zero, List.set_cons_succ, i64_w, i32_w]
      rfl
     refine pure_ (i := 11) (N := some 34) (v := ?_) (a' := ?_) #[true, true, true, true, true, true, true, true, true, true, true, true, false] rfl rfl (any_of HT_.out (by kernel_rfl)) (fun _ _ _ h => h) (Or.inl ⟨by rfl, ?_⟩) ?_ ?_
     rotate_left
     ·intro w'
      go_simp
      with_reducible rfl
     rotate_left
     ·simp only [Act.put, List.setIfInBounds_toArray, List.set_cons_zero, List.set_cons_succ, i64_w, i32_w]
      rfl
     refine last_ (i := 12) (N := none) #[true, true, true, true, true, true, true, true, true, true, true, true, true] rfl rfl (one_of HT_.out (by kernel_rfl)) (by decide) (fun K hK => ?_)
     refine skip_ (w1 := ?_) (by rfl) rfl ?_ ?_
     rotate_left
     ·go_simp
      rfl
     refine hK.out _ _ ?_
     clear hK K
     refine done_ (done_of HT_.out (by kernel_rfl)) ?_
     clear hHeld hc1 hc5 hc6
     have HT2 : Aside0 (TD w #[.int .i64 s0, .slice (some ⟨gz, 0, none⟩) N.length e0, .slice (some ⟨gy, 0, none⟩) O.length e1] base h0 h1 h2 gz e0 gy e1 ((rowsF (fN N.length) N i).set i (rowF (fN N.length i) x (k + 1))) O (wn.setCell ⟨gx, k, none⟩ (.int .i64 (fN N.length i k)))) := ⟨by
      have hs := HC.out.2 (fN N.length i k)
      rw [rows64_set _ (by simp [rowsF_len]; exact hlt), List.set_set, rowF_set _ _ hlt2] at hs
      exact HT.out.put0 HC.out.1 hs (by simp)⟩
     go_wp2_with fail
     go_roundg (x.length - (k + 1))
     case measure => omega
     case rel => exact ⟨k + 1, by omega, by omega, by go_num, HT2⟩
    ·have hltz2 : ¬ (k : Int) < (x.length : Int) := by omega
     obtain rfl : x.length = k := by omega
     obtain ⟨A', cx, hc1⟩ := S_head HT.out.mq.p0 (rows64_at hrow)
     rw [hrl] at hc1
     have HT2 : Aside0 (TD w #[.int .i64 s0, .slice (some ⟨gz, 0, none⟩) N.length e0, .slice (some ⟨gy, 0, none⟩) O.length e1] base h0 h1 h2 gz e0 gy e1 (rowsF (fN N.length) N (i + 1)) O wq) := ⟨by rw [← HXS.out]; exact HT.out⟩
     clear hrow hrl
     go_wp2_with fail
     go_roundg (N.length - (i + 1))
     case measure => omega
     case rel => exact ⟨i + 1, by omega, by omega, by go_num, HT2⟩
  ·have hltz : ¬ (i : Int) < (N.length : Int) := by omega
   obtain rfl : N.length = i := by omega
   go_wp2_with fail
   clear b1
   go_loopg [4, 5] O.length (fun gg v4 _ wr => ∃ i : Nat, i ≤ O.length ∧ O.length - i ≤ gg ∧ v4 = .int .i64 i ∧ Aside0 (TD w #[.int .i64 s0, .slice (some ⟨gz, 0, none⟩) N.length e0, .slice (some ⟨gy, 0, none⟩) O.length e1] base h0 h1 h2 gz e0 gy e1 (rowsF (fN N.length) N N.length) (rowsF fO O i) wr))
   case atStart => exact ⟨0, Nat.zero_le _, by omega, rfl, ⟨by rw [rowsF_zero]; exact HT.out⟩⟩
   case round =>
    clear HT
    obtain ⟨i, hi, hg, rfl, HT⟩ := hrel
    obtain ⟨wo, rfl⟩ : ∃ wo : World, wo = wr := ⟨_, rfl⟩
    have b1 : wo.cell? ⟨w.heap.size, 2, none⟩ = some (.slice (some ⟨gy, 0, none⟩) O.length e1) := (blk_cell HT.out.box 2).trans rfl
    by_cases hlt : i < O.length
    ·have hltz : (i : Int) < (O.length : Int) := by omega
     have HXR := Aside0.mk (rowsF_get fO O hlt)
     have HXS := Aside0.mk (rowsF_set fO O hlt)
     have HXL : Aside0 (O[i].length ≤ 17000000000000) := ⟨HN.out.2.2 _ (List.getElem_mem hlt)⟩
     generalize O[i] = x at HXR HXS HXL
     have hxl := HXL.out
     go_wp2_with fail
     clear b1
     go_loopg [5] x.length (fun gg v5 wr => ∃ k : Nat, k ≤ x.length ∧ x.length - k ≤ gg ∧ v5 = .int .i64 k ∧ Aside0 (TD w #[.int .i64 s0, .slice (some ⟨gz, 0, none⟩) N.length e0, .slice (some ⟨gy, 0, none⟩) O.length e1] base h0 h1 h2 gz e0 gy e1 (rowsF (fN N.length) N N.length) ((rowsF fO O i).set i (rowF (fO i) x k)) wr))
     case atStart => exact ⟨0, Nat.zero_le _, by omega, rfl, ⟨by rw [rowF_zero, set_self HXR.out]; exact HT.out⟩⟩
     case round =>
      clear HT
      obtain ⟨k, hk, hg2, rfl, HT⟩ := hrel
      obtain ⟨wq, rfl⟩ : ∃ wq : World, wq = wr := ⟨_, rfl⟩
      have b1 : wq.cell? ⟨w.heap.size, 2, none⟩ = some (.slice (some ⟨gy, 0, none⟩) O.length e1) := (blk_cell HT.out.box 2).trans rfl
      have hrow : ((rowsF fO O i).set i (rowF (fO i) x k))[i]? = some (rowF (fO i) x k) := by rw [List.getElem?_set_self (by rw [rowsF_len]; exact hlt)]
      have hrl := rowF_len (fO i) x hk
      by_cases hlt2 : k < x.length
      ·have hltz2 : (k : Int) < (x.length : Int) := by omega
       obtain ⟨gx, cx, hc1, hc2, hc3, hc4⟩ := S_put HT.out.mq.p1 (rows64_at hrow) (by rw [hrl]; omega)
       rw [hrl] at hc1 hc4
       obtain ⟨⟨yv, _, hc5⟩, hc6, hc7⟩ := hc4 k hlt2
       have HT2 : Aside0 (TD w #[.int .i64 s0, .slice (some ⟨gz, 0, none⟩) N.length e0, .slice (some ⟨gy, 0, none⟩) O.length e1] base h0 h1 h2 gz e0 gy e1 (rowsF (fN N.length) N N.length) ((rowsF fO O i).set i (rowF (fO i) x (k + 1))) (wq.setCell ⟨gx, k, none⟩ (.int .i64 (fO i k)))) := ⟨by
        have hs := hc7 (fO i k)
        rw [rows64_set _ (by simp [rowsF_len]; exact hlt), List.set_set, rowF_set _ _ hlt2] at hs
        exact HT.out.put1 hc2 hs (by simp)⟩
       clear hrow hrl hc2 hc3 hc4 hc7
       go_wp2_with fail
       go_roundg (x.length - (k + 1))
       case measure => omega
       case rel => exact ⟨k + 1, by omega, by omega, by go_num, HT2⟩
      ·have hltz2 : ¬ (k : Int) < (x.length : Int) := by omega
       obtain rfl : x.length = k := by omega
       obtain ⟨A', cx, hc1⟩ := S_head HT.out.mq.p1 (rows64_at hrow)
       rw [hrl] at hc1
       have HT2 : Aside0 (TD w #[.int .i64 s0, .slice (some ⟨gz, 0, none⟩) N.length e0, .slice (some ⟨gy, 0, none⟩) O.length e1] base h0 h1 h2 gz e0 gy e1 (rowsF (fN N.length) N N.length) (rowsF fO O (i + 1)) wq) := ⟨by rw [← HXS.out]; exact HT.out⟩
       clear hrow hrl
       go_wp2_with fail
       go_roundg (O.length - (i + 1))
       case measure => omega
       case rel => exact ⟨i + 1, by omega, by omega, by go_num, HT2⟩
    ·have hltz : ¬ (i : Int) < (O.length : Int) := by omega
     obtain rfl : O.length = i := by omega
     go_wp2_with fail
     go_end0
     exact ⟨rfl, HT.out.mq, HT.out.below, HT.out.keep⟩
end Go.Proofs.YtfonajakaimnoaaDoor.C13

namespace Go.Proofs.YtfonajakaimnoaaDoor.C13
open Go.RowKit Go.Proofs.YtfonajakaimnoaaDoorW.PrintWords Go.Proofs.YtfonajakaimnoaaDoorW.PrintLast Go.Proofs.YtfonajakaimnoaaDoorW.PrintMore Go.Proofs.YtfonajakaimnoaaDoor.Lib Lent Go.Proofs.YtfonajakaimnoaaDoor.Fn Go.Proofs.YtfonajakaimnoaaDoor.C11 Go.Proofs.YtfonajakaimnoaaDoor.Lend Go.Proofs.YtfonajakaimnoaaDoor.C14
set_option linter.unusedVariables false
set_option linter.unusedSimpArgs false
theorem cell_heap {w w1 : World} {g k : Nat} (h : w1.heap[g]? = w.heap[g]?) : w1.cell? ⟨g, k, none⟩ = w.cell? ⟨g, k, none⟩ := by
 unfold World.cell?
 simp only [h]
def RD (W : World) (v : Value) (x : List Int) : Prop := ∃ A c, v = .slice A x.length c ∧ ∀ k y, x[k]? = some y → ∃ g, A = some ⟨g, 0, none⟩ ∧ W.cell? ⟨g, k, none⟩ = some (.int .i64 y)
theorem RD_of {W : World} {base : Nat} {ok : Nat → Prop} {v : Value} {x : List Int} (h : Kd.R kI 3 W base ok v x) : RD W v x := by
 obtain ⟨A, c, rfl⟩ := Kd.R_slice h
 refine ⟨A, c, rfl, fun k y hy => ?_⟩
 have hl := (List.getElem?_eq_some_iff.1 hy).1
 obtain ⟨g, cap, e, _, _, _⟩ := Kd.R_form h (by omega)
 injection e with e1 e2 e3
 subst e1
 have hc := (Kd.R_cell (d := 0) h (k : Int) (by omega) (by omega)).1
 refine ⟨g, rfl, ?_⟩
 rw [Int.toNat_natCast] at hc
 rw [hc]
 unfold rdOf
 rw [Int.toNat_natCast, List.getD_eq_getElem?_getD, hy]
 rfl
theorem RD.move {W W1 : World} {v : Value} {x : List Int} (h : RD W v x) (hm : ∀ g, v.ownBlock = some g → W1.heap[g]? = W.heap[g]?) : RD W1 v x := by
 obtain ⟨A, c, rfl, hk⟩ := h
 refine ⟨A, c, rfl, fun k y hy => ?_⟩
 obtain ⟨g, rfl, hc⟩ := hk k y hy
 exact ⟨g, rfl, (cell_heap (hm g (by simp [Value.ownBlock]))).trans hc⟩
theorem RD.pre {W : World} {v v1 : Value} {x y : List Int} (h0 : ∃ A c, v = .slice A x.length c) (h : RD W v1 (x ++ y)) (he : v1.ownBlock = v.ownBlock) (hf : ∀ A n c, v = .slice (some A) n c → 0 < n → A = ⟨A.block, 0, none⟩) : RD W v x := by
 obtain ⟨A, c, rfl⟩ := h0
 obtain ⟨A1, c1, rfl, hk⟩ := h
 refine ⟨A, c, rfl, fun k z hz => ?_⟩
 have hl := (List.getElem?_eq_some_iff.1 hz).1
 obtain ⟨g, rfl, hc⟩ := hk k z (by rw [List.getElem?_append_left hl]; exact hz)
 cases A with
 | none => simp [Value.ownBlock] at he
 | some a =>
  have := hf a _ _ rfl (by omega)
  have hb : g = a.block := by simpa [Value.ownBlock] using he
  exact ⟨g, by rw [this, hb], hc⟩
theorem R_at0 {W : World} {base : Nat} {ok : Nat → Prop} {v : Value} {x : List Int} (h : Kd.R kI 3 W base ok v x) : ∀ A n c, v = .slice (some A) n c → 0 < n → A = ⟨A.block, 0, none⟩ := by
 rintro A n c rfl hn
 obtain ⟨A', c', e⟩ := Kd.R_slice h
 injection e with e1 e2 e3
 obtain ⟨g, cap, e', _⟩ := Kd.R_form h (by omega)
 injection e' with e1' _ _
 cases e1'
 rfl
theorem R_append_keep {P : Program} {ops : Array Oper} {rest : List Oper} {o : Oper} {a : Act} {Q : Exit → Act → World → Prop} {w0 W : World} (base : Nat) (hgd : o.guard = none) (s x : Operand) (t e : TypeId)
  (ho : o.op = .call { callee := .builtin .append, args := #[s, x], argTypes := #[t, t] })
  (ht : P.underlying t = some (.slice e)) (hinfo : (P.info? e).map (fun i => (i.zero, i.size, i.bytes)) = some (some (.int .i64 0), 1, 8))
  (v : Value) (xs : List Int) (p : Int) (ok : Nat → Prop) (hs : a.eval s = v) (hx : a.eval x = .slice (some ⟨W.heap.size, 0, none⟩) 1 1) (hfresh : ∀ k, W.heap.size ≤ k → ok k)
  (HO : Kd.R (Kd.int .i64) e W base ok v xs) (HB : Below base w0 W) (hbase : base ≤ W.heap.size) (hl : (xs.length + 1) * 8 ≤ 140737488355328)
  (h : ∀ v1 w1, Kd.R (Kd.int .i64) e w1 base ok v1 (xs ++ [p]) → Below base w0 w1 → W.grownBy w1 v.ownBlock → (v1.ownBlock = v.ownBlock ∨ (∃ b, v1.ownBlock = some b ∧ W.heap.size ≤ b) ∧ W.grownBy w1 none) → wpList P ops Q rest (a.put o.dst v1) w1) :
  wpList P ops Q (o :: rest) a (W.alloc (.cells #[.int .i64 p] e)) := by
 obtain ⟨i0, hi, hzz⟩ := Option.map_eq_some_iff.1 hinfo
 simp only [Prod.mk.injEq] at hzz
 obtain ⟨hz0, hz1, hz2⟩ := hzz
 obtain ⟨hok, inner, hown, hr⟩ := HO
 have hlen : inner.length = xs.length := by have := hr.1; simpa [Kd.int, Kd.scalar] using this
 have hone : ∀ u ∈ inner, u.oneCell' = true := by
  intro u hu
  obtain ⟨j, hj, rfl⟩ := List.getElem_of_mem hu
  have := hr.2 j xs[j] (List.getElem?_eq_getElem (by omega))
  have h3 : ((inner.drop (j * 1)).take 1) = [Value.int .i64 xs[j]] := this
  rw [Nat.mul_one, List.drop_eq_getElem_cons hj, List.take_succ_cons, List.take_zero] at h3
  injection h3 with h3
  rw [h3]
  rfl
 have happ : Reps (fun q c => c = [Value.int .i64 q]) 1 (xs ++ [p]) (inner ++ [.int .i64 p]) := Reps.snoc (R := fun q c => c = [Value.int .i64 q]) hr rfl rfl
 have hnew : ∀ (j : Nat) (u : Value), [Value.int .i64 p][j]? = some u → (W.alloc (.cells #[.int .i64 p] e)).cell? ((⟨W.heap.size, 0, none⟩ : Addr).add j) = some u := by
  intro j u hu
  cases j with
  | zero =>
   simp at hu
   subst hu
   show (W.alloc (.cells #[.int .i64 p] e)).cell? ⟨W.heap.size, 0, none⟩ = _
   exact (blk_cell (heap_alloc_new W (.cells #[.int .i64 p] e)) 0).trans rfl
  | succ j => simp at hu
 have h1 : ∀ u ∈ [Value.int .i64 p], u.oneCell' = true := by intro u hu; rw [List.mem_singleton.1 hu]; rfl
 have hownA : (W.alloc (.cells #[.int .i64 p] e)).ownsRow base e 1 v xs.length inner := hown.alloc _
 have fin : ∀ v1 w1, w1.ownsRow base e 1 v1 (xs.length + 1) (inner ++ [.int .i64 p]) → (∀ k, v1.ownBlock = some k → ok k) → Kd.R (Kd.int .i64) e w1 base ok v1 (xs ++ [p]) := by
  intro v1 w1 ho1 hk1
  refine ⟨hk1, inner ++ [Value.int .i64 p], ?_, happ⟩
  rw [List.length_append, List.length_singleton]
  exact ho1
 have hgA := World.grownBy_alloc W (.cells #[.int .i64 p] e) none
 have hgrows : ∀ (ao : Option Addr) (cap : Nat), v = .slice ao xs.length cap → (ao = none → xs.length = 0 ∧ cap = 0) → cap < xs.length + 1 → (∀ b, ao = some b → ∀ j u, inner[j]? = some u → (W.alloc (.cells #[.int .i64 p] e)).cell? (b.add j) = some u) → wpList P ops Q (o :: rest) a (W.alloc (.cells #[.int .i64 p] e)) := by
  intro ao cap hv hnone hfull holds
  refine wpList_append_grows _ hgd s x t ho e i0 (.int .i64 0) 1 8 ht hi hz0 hz1 hz2 rfl (by decide) ao xs.length cap inner (by rw [hs, hv]) hnone (by omega) holds ⟨W.heap.size, 0, none⟩ 1 1 [.int .i64 p] hx rfl hnew h1 hfull (by unfold maxLen; omega) hl ?_
  intro v' w' hown' hg'
  have hgW : W.grownBy w' none := hgA.trans hg'
  obtain ⟨g, cap', ev, hge, _⟩ := (own_weaken hown' (Nat.zero_le _)).form (by omega)
  have hge2 : W.heap.size + 1 ≤ g := by
   obtain ⟨g', cap'', ev', hge', _⟩ := hown'.form (by omega)
   rw [ev] at ev'
   injection ev' with e1 _ _
   cases e1
   simpa using hge'
  refine h v' w' (fin v' w' (own_weaken hown' (by simp; omega)) (fun k hk => hfresh k ?_)) (HB.grown hgW hbase (fun k hk => by cases hk)) ⟨hgW.os, hgW.tape, hgW.output, hgW.size, fun k hk hne => hgW.block k hk (by simp)⟩ (.inr ⟨⟨g, by rw [ev]; simp [Value.ownBlock], by omega⟩, hgW⟩)
  rw [ev] at hk
  have : g = k := by simpa [Value.ownBlock] using hk
  omega
 rcases hown.2 with ⟨hv, hx0⟩ | ⟨g, cap, cur, hv, hbg, hhg, hcap, hcap2, hcs, hct⟩
 ·exact hgrows none 0 (by rw [hv, hx0]) (fun _ => ⟨hx0, rfl⟩) (by omega) (fun b hb => by cases hb)
 ·by_cases hroom : xs.length + 1 ≤ cap
  ·refine wpList_append_fits _ hgd s x t ho base e i0 1 ht hi hz1 g xs.length cap inner (by rw [hs, hv]) (by rw [← hv]; exact hownA) ⟨W.heap.size, 0, none⟩ 1 1 [.int .i64 p] hx rfl hnew h1 hroom ?_
   intro w' hown' hg'
   have hgW : W.grownBy w' (some g) := (World.grownBy_alloc W (.cells #[.int .i64 p] e) (some g)).trans hg'
   have hvb : v.ownBlock = some g := by rw [hv]; simp [Value.ownBlock]
   exact h _ w' (fin _ w' hown' (fun k hk => hok k (by rw [hvb]; simpa [Value.ownBlock] using hk))) (HB.grown hgW hbase (fun k hk => by cases hk; exact hbg)) (by rw [hvb]; exact hgW) (.inl (by rw [hvb]; simp [Value.ownBlock]))
  ·refine hgrows (some ⟨g, 0, none⟩) cap hv (fun h => by cases h) (by omega) (fun b hb j u hu => ?_)
   cases hb
   have hj := (List.getElem?_eq_some_iff.1 hu).1
   have hadd : ((⟨g, 0, none⟩ : Addr).add j) = ⟨g, j, none⟩ := by
    simp [Addr.add]
    try (intro e; rw [e])
   rw [hadd, blk_cell (blk_alloc hhg _) j]
   rw [← hct, List.getElem?_take] at hu
   split at hu
   ·rw [← hu]; simp
   ·cases hu
end Go.Proofs.YtfonajakaimnoaaDoor.C13

namespace Go.Proofs.YtfonajakaimnoaaDoor.C13
open Go.RowKit Go.Proofs.YtfonajakaimnoaaDoorW.PrintWords Go.Proofs.YtfonajakaimnoaaDoorW.PrintLast Go.Proofs.YtfonajakaimnoaaDoorW.PrintMore Go.Proofs.YtfonajakaimnoaaDoor.Lib Lent Go.Proofs.YtfonajakaimnoaaDoor.Fn Go.Proofs.YtfonajakaimnoaaDoor.C11 Go.Proofs.YtfonajakaimnoaaDoor.Lend Go.Proofs.YtfonajakaimnoaaDoor.C14
set_option linter.unusedVariables false
set_option linter.unusedSimpArgs false
attribute [local go_sem] max2_int min2_int max_two min_two max_three min_three max_four min_four
structure ST (w : World) (gl : Nat) (T : List Value) : Prop where
 apart : ∀ (i j : Nat) vi vj k, i ≠ j → T[i]? = some vi → T[j]? = some vj → vi.ownBlock = some k → vj.ownBlock ≠ some k
 og : ∀ (j : Nat) v, T[j]? = some v → v.ownBlock ≠ some gl
 lt : ∀ (j : Nat) v k, T[j]? = some v → v.ownBlock = some k → k < w.heap.size
 at0 : ∀ (j : Nat) v, T[j]? = some v → ∀ A n c, v = .slice (some A) n c → 0 < n → A = ⟨A.block, 0, none⟩
 glt : gl < w.heap.size
structure SI (w : World) (base gl : Nat) (T : List Value) (X : LL) (W : World) : Prop where
 below : Below base w W
 len : X.length = T.length
 outer : ∀ (i : Nat) v, T[i]? = some v → W.cell? ⟨gl, i, none⟩ = some v
 rows : ∀ (i : Nat) v x, T[i]? = some v → X[i]? = some x → Kd.R kI 3 W base (fun _ => True) v x
section
variable {w : World} {base gl : Nat} {T : List Value} {X : LL} {W : World}
theorem SI.put (s : ST w gl T) (h : SI w base gl T X W) {i k : Nat} {v : Value} {x : List Int} (hv : T[i]? = some v) (hx : X[i]? = some x) (hk : k < x.length) :
  ∃ gx c, v = .slice (some ⟨gx, 0, none⟩) x.length c ∧ W.frozen? ⟨gx, k, none⟩ = false ∧ (∃ y, W.cell? ⟨gx, k, none⟩ = some (.int .i64 y)) ∧ ∀ u, SI w base gl T (X.set i (x.set k u)) (W.setCell ⟨gx, k, none⟩ (.int .i64 u)) := by
 have hR := h.rows i v x hv hx
 obtain ⟨A, c, rfl⟩ := Kd.R_slice hR
 obtain ⟨gx, cap, e, hbg, _, _⟩ := Kd.R_form hR (by omega)
 injection e with e1 e2 e3
 subst e1
 have hc := Kd.R_cell (d := 0) hR (k : Int) (by omega) (by omega)
 rw [Int.toNat_natCast] at hc
 refine ⟨gx, c, rfl, hc.2, ⟨_, hc.1⟩, fun u => ?_⟩
 have far : ∀ j, j ≠ gx → (W.setCell ⟨gx, k, none⟩ (.int .i64 u)).heap[j]? = W.heap[j]? := fun j hj => Below.heap_setCell W ⟨gx, k, none⟩ _ j hj
 have hgx : (Value.slice (some ⟨gx, 0, none⟩) x.length c).ownBlock = some gx := by simp [Value.ownBlock]
 refine ⟨h.below.setCell (by show base ≤ gx; exact hbg) _, by rw [List.length_set]; exact h.len, fun j vj hj => (cell_heap (far gl (fun e => s.og i _ hv (by rw [hgx, e])))).trans (h.outer j vj hj), fun j vj xj hj hxj => ?_⟩
 by_cases e : j = i
 ·subst e
  rw [hv] at hj
  cases hj
  rw [List.getElem?_set_self (List.getElem?_eq_some_iff.1 hx).1] at hxj
  cases hxj
  have := (Kd.R_put hR (k : Int) u).1
  rw [Int.toNat_natCast] at this
  exact this
 ·rw [List.getElem?_set_ne (fun e2 => e e2.symm)] at hxj
  have hRj := h.rows j vj xj hj hxj
  exact Kd.R_mono (Kd.R_move (Kd.R_tight rfl hRj) (fun q hq => far q (fun e2 => by subst e2; exact s.apart j i vj _ q e hj hv hq.symm hgx))) (fun _ _ => trivial)
end
def fS (i : Nat) (_ : Nat) : Int := -100 - (i : Int)
def okm (T : List Value) (gl i : Nat) (k : Nat) : Prop := k ≠ gl ∧ ∀ (j : Nat) v, i ≤ j → T[j]? = some v → v.ownBlock ≠ some k
def mrows (X : LL) (i : Nat) : List (List Int × List Int) := (X.take i).zipIdx.map fun p => (p.1 ++ List.replicate 64 (-100 - (p.2 : Int)), [])
theorem mrows_snoc {X : LL} {i : Nat} {x : List Int} (h : X[i]? = some x) : mrows X i ++ [(x ++ List.replicate 64 (-100 - (i : Int)), [])] = mrows X (i + 1) := by
 have hl := (List.getElem?_eq_some_iff.1 h).1
 unfold mrows
 rw [List.take_add_one, h, List.zipIdx_append, List.map_append]
 simp only [List.length_take]
 rw [Nat.min_eq_left (by omega)]
 congr 1
 simp
theorem mrows_len {X : LL} {i : Nat} (h : i ≤ X.length) : (mrows X i).length = i := by simp [mrows]; omega
theorem mrows_get {X : LL} {n i : Nat} {x : List Int} (h : X[i]? = some x) (hi : i < n) : (mrows X n)[i]? = some (x ++ List.replicate 64 (-100 - (i : Int)), []) := by
 unfold mrows
 rw [List.getElem?_map, List.getElem?_zipIdx, List.getElem?_take, if_pos hi, h]
 simp
structure SM (w : World) (base gl : Nat) (T : List Value) (X : LL) (i : Nat) (vm : Value) (W : World) : Prop where
 below : Below base w W
 len : X.length = T.length
 outer : ∀ (i : Nat) v, T[i]? = some v → W.cell? ⟨gl, i, none⟩ = some v
 reads : ∀ (j : Nat) v x, T[j]? = some v → X[j]? = some x → RD W v x
 rows : ∀ (j : Nat) v x, i ≤ j → T[j]? = some v → X[j]? = some x → Kd.R kI 3 W base (fun _ => True) v x
 more : Kd.S kM 25 W base (okm T gl i) vm (mrows X i)
 vmo : ∀ (j : Nat) v k, T[j]? = some v → v.ownBlock = some k → vm.ownBlock ≠ some k
structure SN (w : World) (base gl : Nat) (T : List Value) (X : LL) (i : Nat) (vm : Value) (lim : Nat) (vi : Value) (x : List Int) (k : Nat) (v : Value) (W : World) : Prop where
 below : Below base w W
 len : X.length = T.length
 outer : ∀ (i : Nat) v, T[i]? = some v → W.cell? ⟨gl, i, none⟩ = some v
 reads : ∀ (j : Nat) v x, T[j]? = some v → X[j]? = some x → RD W v x
 rows : ∀ (j : Nat) v x, i + 1 ≤ j → T[j]? = some v → X[j]? = some x → Kd.R kI 3 W base (fun _ => True) v x
 more : Kd.S kM 25 W base (fun k => okm T gl i k ∧ k < lim) vm (mrows X i)
 m : Kd.R kI 3 W base (fun k => some k = vi.ownBlock ∨ lim ≤ k) v (x ++ List.replicate k (-100 - (i : Int)))
 lims : w.heap.size ≤ lim ∧ lim ≤ W.heap.size
 vmo : ∀ (j : Nat) v k, T[j]? = some v → v.ownBlock = some k → vm.ownBlock ≠ some k
section
variable {w : World} {base gl : Nat} {T : List Value} {X : LL} {W : World} {i : Nat} {vm vi : Value} {x : List Int}
theorem SM.enter (s : ST w gl T) (h : SM w base gl T X i vm W) (hv : T[i]? = some vi) (hx : X[i]? = some x) : SN w base gl T X i vm W.heap.size vi x 0 vi W :=
 ⟨h.below, h.len, h.outer, h.reads, fun j v x hj => h.rows j v x (by omega), Kd.S_mono (Kd.S_bound h.more) (fun k hk => ⟨hk.1, hk.2.2.1⟩), by
  have := Kd.R_tight rfl (h.rows i vi x (Nat.le_refl _) hv hx)
  simpa using Kd.R_mono this (fun k hk => Or.inl hk), ⟨h.below.size, Nat.le_refl _⟩, h.vmo⟩
theorem SN.grow (s : ST w gl T) {lim k : Nat} {v v1 : Value} {W1 : World} (h : SN w base gl T X i vm lim vi x k v W) (hv : T[i]? = some vi) (hx : X[i]? = some x)
  (hr : Kd.R kI 3 W1 base (fun k => some k = vi.ownBlock ∨ lim ≤ k) v1 (x ++ List.replicate (k + 1) (-100 - (i : Int)))) (hb : Below base w W1) (hg : W.grownBy W1 v.ownBlock)
  (hat : v1.ownBlock = v.ownBlock ∨ (∃ b, v1.ownBlock = some b ∧ W.heap.size ≤ b) ∧ W.grownBy W1 none) : SN w base gl T X i vm lim vi x (k + 1) v1 W1 := by
 have l := h.lims
 have hown : ∀ q, v.ownBlock = some q → some q = vi.ownBlock ∨ lim ≤ q := fun q hq => h.m.1 q hq
 -- what is neither the list's row nor new stays
 have stay : ∀ q, q < lim → vi.ownBlock ≠ some q → W1.heap[q]? = W.heap[q]? := fun q hq hne => hg.block q (by omega) (fun e => by
  rcases hown q e.symm with h1 | h1
  ·exact hne h1.symm
  ·omega)
 refine ⟨hb, h.len, fun j vj hj => (cell_heap (stay gl (by have := s.glt; omega) (s.og i _ hv))).trans (h.outer j vj hj), fun j vj xj hj hxj => ?_, fun j vj xj hji hj hxj => ?_, Kd.S_move h.more (fun q hq => stay q hq.2 (fun e => hq.1.2 i vi (Nat.le_refl _) hv e)), hr, ⟨l.1, by have := hg.size; omega⟩, h.vmo⟩
 ·by_cases e : j = i
  ·subst e
   rw [hv] at hj
   cases hj
   rw [hx] at hxj
   cases hxj
   have hrd := h.reads j vi x hv hx
   rcases hat with ha | ⟨_, hn⟩
   ·by_cases hvv : v.ownBlock = vi.ownBlock
    ·obtain ⟨A, c, e, _⟩ := hrd
     exact RD.pre ⟨A, c, e⟩ (RD_of hr) (ha.trans hvv) (s.at0 j vi hv)
    ·exact hrd.move (fun q hq => hg.block q (by have := s.lt j vi q hv hq; omega) (fun e => hvv (by rw [← e, hq])))
   ·exact hrd.move (fun q hq => hn.block q (by have := s.lt j vi q hv hq; omega) (by simp))
  ·exact (h.reads j vj xj hj hxj).move (fun q hq => stay q (by have := s.lt j vj q hj hq; omega) (fun e2 => s.apart j i vj vi q e hj hv hq e2))
 ·exact Kd.R_mono (Kd.R_move (Kd.R_tight rfl (h.rows j vj xj hji hj hxj)) (fun q hq => stay q (by have := s.lt j vj q hj hq.symm; omega) (fun e2 => s.apart j i vj vi q (by omega) hj hv hq.symm e2))) (fun _ _ => trivial)
theorem mk_ok (s : ST w gl T) {lim k : Nat} {Am : Option Addr} {n cm : Nat} (h : SN w base gl T X i vm lim vi x k (.slice Am n cm) W) (hv : T[i]? = some vi) : ∀ q, some q = (Value.slice Am n cm).ownBlock → okm T gl (i + 1) q ∧ some q ≠ vm.ownBlock := by
 intro q hq
 have l := h.lims
 rcases h.m.1 q hq.symm with h1 | h1
 ·refine ⟨⟨fun e => s.og i vi hv (by rw [← h1, e]), fun j v hj hjv e => s.apart j i v vi q (by omega) hjv hv e h1.symm⟩, fun e => ?_⟩
  exact ((Kd.S_R h.more).1 q e.symm).1.2 i vi (Nat.le_refl _) hv h1.symm
 ·refine ⟨⟨by have := s.glt; omega, fun j v _ hjv e => by have := s.lt j v q hjv e; omega⟩, fun e => ?_⟩
  have := ((Kd.S_R h.more).1 q e.symm).2
  omega
theorem mk_old (s : ST w gl T) {lim k : Nat} {Am : Option Addr} {n cm : Nat} (h : SN w base gl T X i vm lim vi x k (.slice Am n cm) W) (hv : T[i]? = some vi) : Kd.S kM 25 W base (fun q => okm T gl (i + 1) q ∧ ¬ some q = (Value.slice Am n cm).ownBlock) vm (mrows X i) :=
 Kd.S_mono h.more (fun q hq => ⟨⟨hq.1.1, fun j v hj hjv => hq.1.2 j v (by omega) hjv⟩, fun e => by
  rcases h.m.1 q e.symm with h1 | h1
  ·exact hq.1.2 i vi (Nat.le_refl _) hv h1.symm
  ·omega⟩)
theorem mk_next (s : ST w gl T) {lim k : Nat} {v v1 : Value} {W1 : World} (h : SN w base gl T X i vm lim vi x k v W) (hv : T[i]? = some vi)
  (hr : Kd.S kM 25 W1 base (okm T gl (i + 1)) v1 (mrows X (i + 1))) (hb : Below base w W1) (hg : W.grownBy W1 vm.ownBlock) (hat : v1.ownBlock = vm.ownBlock ∨ ∃ b, v1.ownBlock = some b ∧ W.heap.size ≤ b) : SM w base gl T X (i + 1) v1 W1 := by
 have l := h.lims
 have hm : ∀ q, vm.ownBlock = some q → okm T gl i q := fun q hq => ((Kd.S_R h.more).1 q hq).1
 have hty : ∀ q, vm.ownBlock = some q → ∃ cells, W.heap[q]? = some (.cells cells 25 (0, 0)) := Kd.S_typed h.more
 have stay : ∀ q, q < W.heap.size → vm.ownBlock ≠ some q → W1.heap[q]? = W.heap[q]? := fun q hq hne => hg.block q hq (fun e => hne e.symm)
 refine ⟨hb, h.len, fun j vj hj => (cell_heap (stay gl (by have := s.glt; omega) (fun e => (hm gl e).1 rfl))).trans (h.outer j vj hj), fun j vj xj hj hxj => ?_, fun j vj xj hji hj hxj => ?_, hr, fun j vj q hj hq e => ?_⟩
 ·exact (h.reads j vj xj hj hxj).move (fun q hq => stay q (by have := s.lt j vj q hj hq; omega) (h.vmo j vj q hj hq))
 ·exact Kd.R_mono (Kd.R_move (Kd.R_tight rfl (h.rows j vj xj hji hj hxj)) (fun q hq => stay q (by have := s.lt j vj q hj hq.symm; omega) (fun e => (hm q e).2 j vj (by omega) hj hq.symm))) (fun _ _ => trivial)
 ·rcases hat with ha | ⟨b, ha, hbb⟩
  ·exact h.vmo j vj q hj hq (by rw [← ha, e])
  ·rw [e] at ha
   have := s.lt j vj q hj hq
   injection ha with ha
   omega
end
theorem rowsF_all (f : Nat → Nat → Int) (L : LL) (j : Nat) : (rowsF f L L.length)[j]? = (L[j]?).map (fun x => rowF (f j) x x.length) := by
 unfold rowsF
 rw [List.take_length, List.drop_length, List.append_nil, List.getElem?_map, List.getElem?_zipIdx]
 cases L[j]? <;> simp
theorem rowF_full (f : Nat → Int) (x : List Int) {k : Nat} {y : Int} (h : (rowF f x x.length)[k]? = some y) : y = f k := by
 unfold rowF at h
 rw [List.drop_length, List.append_nil, List.getElem?_map] at h
 cases hk : (List.range x.length)[k]? with
 | none => rw [hk] at h; cases h
 | some q =>
  rw [hk] at h
  have hq := List.getElem?_eq_some_iff.1 hk
  obtain ⟨hl, he⟩ := hq
  simp at he
  subst he
  injection h with h
  exact h.symm
set_option maxHeartbeats 8000000 in
set_option maxRecDepth 100000 in
theorem split_calls {base gl cl : Nat} {T : List Value} {L : LL} {w : World} (s : ST w gl T) (h : SI w base gl T L w) (hbs : base ≤ w.heap.size) (hT : T.length ≤ 5000000000000) (hL : ∀ x ∈ L, x.length ≤ 17000000000000) :
  Calls Tryd.prog 18 #[.slice (some ⟨gl, 0, none⟩) T.length cl] w fun e w' => e = .returned (.bool true) ∧ Below base w w' := by
 have hu := Tryd.underlying22
 have HS := Aside0.mk s
 have HI := Aside0.mk h
 have HBS := Aside0.mk hbs
 have HL := Aside0.mk (And.intro h.len hL)
 clear s h hbs hL
 go_enter Tryd.func18, Tryd.ntmps18
 go_wp2_with fail
 go_loopg [4, 5] T.length (fun gg v4 _ wr => ∃ i : Nat, i ≤ T.length ∧ T.length - i ≤ gg ∧ v4 = .int .i64 i ∧ Aside0 (SI w base gl T (rowsF fS L i) wr))
 case atStart => exact ⟨0, Nat.zero_le _, by omega, rfl, ⟨by rw [rowsF_zero]; exact HI.out⟩⟩
 case round =>
  clear HI
  obtain ⟨i, hi, hg, rfl, HI⟩ := hrel
  obtain ⟨wo, rfl⟩ : ∃ wo : World, wo = wr := ⟨_, rfl⟩
  by_cases hlt : i < T.length
  ·have hltz : (i : Int) < (T.length : Int) := by omega
   have hltL : i < L.length := by have := HL.out.1; omega
   obtain ⟨vi, hvi⟩ : ∃ v, T[i]? = some v := ⟨_, List.getElem?_eq_getElem hlt⟩
   have HVI := Aside0.mk hvi
   have HXR := Aside0.mk (rowsF_get fS L hltL)
   have HXS := Aside0.mk (rowsF_set fS L hltL)
   have HXL : Aside0 (L[i].length ≤ 17000000000000) := ⟨HL.out.2 _ (List.getElem_mem hltL)⟩
   generalize L[i] = x at HXR HXS HXL
   have hxl := HXL.out
   clear hvi hltL
   go_wp2_with fail
   go_loopg [5] x.length (fun gg v5 wr => ∃ k : Nat, k ≤ x.length ∧ x.length - k ≤ gg ∧ v5 = .int .i64 k ∧ Aside0 (SI w base gl T ((rowsF fS L i).set i (rowF (fS i) x k)) wr))
   case atStart => exact ⟨0, Nat.zero_le _, by omega, rfl, ⟨by rw [rowF_zero, set_self HXR.out]; exact HI.out⟩⟩
   case round =>
    clear HI
    obtain ⟨k, hk, hg2, rfl, HI⟩ := hrel
    obtain ⟨wq, rfl⟩ : ∃ wq : World, wq = wr := ⟨_, rfl⟩
    have hrow : ((rowsF fS L i).set i (rowF (fS i) x k))[i]? = some (rowF (fS i) x k) := by rw [List.getElem?_set_self (by rw [rowsF_len]; have := HL.out.1; omega)]
    have hrl := rowF_len (fS i) x hk
    have hout := HI.out.outer i vi HVI.out
    by_cases hlt2 : k < x.length
    ·have hltz2 : (k : Int) < (x.length : Int) := by omega
     obtain ⟨gx, cx, hc1, hc2, ⟨yv, hc3⟩, hc4⟩ := HI.out.put HS.out HVI.out hrow (by rw [hrl]; exact hlt2)
     rw [hrl] at hc1
     subst hc1
     have HI2 : Aside0 (SI w base gl T ((rowsF fS L i).set i (rowF (fS i) x (k + 1))) (wq.setCell ⟨gx, k, none⟩ (.int .i64 (fS i k)))) := ⟨by
      have hs := hc4 (fS i k)
      rw [List.set_set, rowF_set _ _ hlt2] at hs
      exact hs⟩
     clear hrow hrl hc4
     go_wp2_with fail
     go_roundg (x.length - (k + 1))
     case measure => omega
     case rel => exact ⟨k + 1, by omega, by omega, by go_num, HI2⟩
    ·have hltz2 : ¬ (k : Int) < (x.length : Int) := by omega
     obtain rfl : x.length = k := by omega
     obtain ⟨A', cx, hc1⟩ := Kd.R_slice (HI.out.rows i vi _ HVI.out hrow)
     rw [hrl] at hc1
     subst hc1
     have HI2 : Aside0 (SI w base gl T (rowsF fS L (i + 1)) wq) := ⟨by rw [← HXS.out]; exact HI.out⟩
     clear hrow hrl
     go_wp2_with fail
     go_roundg (T.length - (i + 1))
     case measure => omega
     case rel => exact ⟨i + 1, by omega, by omega, by go_num, HI2⟩
  ·have hltz : ¬ (i : Int) < (T.length : Int) := by omega
   obtain ⟨X, hX⟩ : ∃ X, X = rowsF fS L T.length := ⟨_, rfl⟩
   have hiT : i = T.length := by omega
   rw [hiT, ← hX] at HI
   have HXV : Aside0 (∀ (j : Nat) x, X[j]? = some x → x.length ≤ 17000000000000 ∧ ∀ (k : Nat) y, x[k]? = some y → y = -100 - (j : Int)) := ⟨fun j x hx => by
    rw [hX, ← HL.out.1, rowsF_all] at hx
    obtain ⟨x0, hx0, rfl⟩ := Option.map_eq_some_iff.1 hx
    refine ⟨?_, fun k y hy => rowF_full (fS j) x0 hy⟩
    rw [rowF_len (fS j) x0 (Nat.le_refl _)]
    exact HL.out.2 _ (List.mem_of_getElem? hx0)⟩
   have HM : Aside0 (SM w base gl T X 0 (.slice none 0 0) wo) := ⟨⟨HI.out.below, HI.out.len, HI.out.outer, fun j v x hj hx => RD_of (HI.out.rows j v x hj hx), fun j v x _ hj hx => HI.out.rows j v x hj hx, Kd.S_nil _ _ _ _ _, fun _ _ _ _ _ => by simp [Value.ownBlock]⟩⟩
   clear hX HI hi hg hiT
   go_wp2_with fail
   go_loopg [3, 6, 7, 8] T.length (fun gg v3 v6 _ _ wr => ∃ i : Nat, i ≤ T.length ∧ T.length - i ≤ gg ∧ v6 = .int .i64 i ∧ Aside0 (SM w base gl T X i v3 wr))
   case atStart => exact ⟨0, Nat.zero_le _, by omega, rfl, HM⟩
   case round =>
    clear HM
    obtain ⟨i, hi, hg, rfl, HM⟩ := hrel
    obtain ⟨wo, rfl⟩ : ∃ wo : World, wo = wr := ⟨_, rfl⟩
    by_cases hlt : i < T.length
    ·have hltz : (i : Int) < (T.length : Int) := by omega
     obtain ⟨vi, hvi⟩ : ∃ v, T[i]? = some v := ⟨_, List.getElem?_eq_getElem hlt⟩
     obtain ⟨x, hx⟩ : ∃ x, X[i]? = some x := ⟨_, List.getElem?_eq_getElem (by have := HM.out.len; omega)⟩
     have HVI := Aside0.mk (And.intro hvi hx)
     have HXX := Aside0.mk (HXV.out i x hx)
     have HN := Aside0.mk (HM.out.enter HS.out hvi hx)
     have hout := HM.out.outer i vi hvi
     obtain ⟨Ai, ci, hvs⟩ := Kd.R_slice (HM.out.rows i vi x (Nat.le_refl _) hvi hx)
     have HVS := Aside0.mk hvs
     rw [hvs] at hout
     obtain ⟨lim, hlim⟩ : ∃ l, l = wo.heap.size := ⟨_, rfl⟩
     rw [← hlim] at HN
     clear hvi hx hvs hlim HM
     go_wp2_with fail
     rw [← HVS.out]
     go_loopg [7, 8] 64 (fun gg v7 v8 wr => ∃ k : Nat, k ≤ 64 ∧ 64 - k ≤ gg ∧ v8 = .int .i64 k ∧ Aside0 (SN w base gl T X i u3 lim vi x k v7 wr))
     case atStart => exact ⟨0, Nat.zero_le _, by omega, rfl, HN⟩
     case round =>
      clear HN hout
      obtain ⟨k, hk, hg2, rfl, HN⟩ := hrel
      obtain ⟨wq, rfl⟩ : ∃ wq : World, wq = wr := ⟨_, rfl⟩
      by_cases hlt2 : k < 64
      ·have hltz2 : (k : Int) < 64 := by omega
       go_wp2_with ((with_reducible refine gate_builtin (b := .append) (xs := #[.tmp 48, .tmp 51]) rfl ?_); at_builtin; refine R_append_keep (w0 := w) base rfl (.tmp 48) (.tmp 51) 25 3 rfl Tryd.underlying25 info3 _ (x ++ List.replicate k (-100 - (i : Int))) (-100 - (i : Int)) (fun q => some q = vi.ownBlock ∨ lim ≤ q) rfl rfl ?aF ?aO ?aB ?aS ?aL ?_; (case aF => exact fun q hq => Or.inr (by have := HN.out.lims; omega)); (case aO => exact HN.out.m); (case aB => exact HN.out.below); (case aS => have h1 := HN.out.lims; have h2 := HBS.out; omega); (case aL => have h1 := HXX.out.1; simp only [List.length_append, List.length_replicate]; omega); intro vz wz hoz hbz hgz hatz; rw [snoc_mark] at hoz; have HN2 := Aside0.mk (HN.out.grow HS.out HVI.out.1 HVI.out.2 hoz hbz hgz hatz); clear hoz hbz hgz hatz)
       go_roundg (64 - (k + 1))
       case measure => omega
       case rel => exact ⟨k + 1, by omega, by omega, by go_num, HN2⟩
      ·have hltz2 : ¬ (k : Int) < 64 := by omega
       obtain rfl : k = 64 := by omega
       obtain ⟨Am, cm, rfl⟩ := Kd.R_slice HN.out.m
       have HV := Aside0.mk (Kd.S_lt HN.out.more)
       go_wp2_with ((with_reducible refine gate_builtin (b := .append) (xs := #[.tmp 53, .tmp 55]) rfl ?_); at_builtin; refine Kd.S_append kM (w0 := w) base rfl (.tmp 53) (.tmp 55) 22 25 (.slice none 0 0) 24 rfl Tryd.underlying22 info25 rfl (by decide) (by omega) u3 (mrows X i) (x ++ List.replicate 64 (-100 - (i : Int)), []) [.slice Am (x.length + 64) cm] (okm T gl (i + 1)) (fun q => some q = (Value.slice Am (x ++ List.replicate 64 (-100 - (i : Int))).length cm).ownBlock) rfl rfl ?aP ?aK ?aF ?aO ?aB ?aS ?aL ?_; (case aP => exact ⟨Am, cm, by simp, by rw [List.append_nil]; exact Kd.R_tight rfl HN.out.m⟩); (case aK => exact (mk_ok HS.out HN.out HVI.out.1)); (case aF => exact fun q hq => ⟨by have h1 := HS.out.glt; have h2 := HN.out.lims; omega, fun j v _ hj e => by have h1 := HS.out.lt j v q hj e; have h2 := HN.out.lims; omega⟩); (case aO => exact (mk_old HS.out HN.out HVI.out.1)); (case aB => exact HN.out.below); (case aS => have h1 := HN.out.lims; have h2 := HBS.out; omega); (case aL => rw [mrows_len (by have := HN.out.len; omega)]; omega); intro vz wz hoz hbz hgz hatz; rw [mrows_snoc HVI.out.2] at hoz; have HM2 := Aside0.mk (mk_next HS.out HN.out HVI.out.1 hoz hbz hgz hatz); clear hoz hbz hgz hatz)
       go_roundg (T.length - (i + 1))
       case measure => omega
       case rel => exact ⟨i + 1, by omega, by omega, by go_num, HM2⟩
    ·have hltz : ¬ (i : Int) < (T.length : Int) := by omega
     have hiT : i = T.length := by omega
     rw [hiT] at HM
     obtain ⟨A3, c3, hv3⟩ := Kd.S_slice HM.out.more
     rw [mrows_len (by have := HM.out.len; omega)] at hv3
     subst hv3
     clear hiT
     go_wp2_with fail
     go_loopg [9, 10] T.length (fun gg v9 _ wr => ∃ i : Nat, i ≤ T.length ∧ T.length - i ≤ gg ∧ v9 = .int .i64 i ∧ Aside0 (SM w base gl T X T.length (.slice A3 T.length c3) wr))
     case atStart => exact ⟨0, Nat.zero_le _, by omega, rfl, HM⟩
     case round =>
      clear HM
      obtain ⟨i, hi, hg, rfl, HM⟩ := hrel
      obtain ⟨wo, rfl⟩ : ∃ wo : World, wo = wr := ⟨_, rfl⟩
      by_cases hlt : i < T.length
      ·have hltz : (i : Int) < (T.length : Int) := by omega
       obtain ⟨vi, hvi⟩ : ∃ v, T[i]? = some v := ⟨_, List.getElem?_eq_getElem hlt⟩
       obtain ⟨x, hx⟩ : ∃ x, X[i]? = some x := ⟨_, List.getElem?_eq_getElem (by have := HM.out.len; omega)⟩
       have HVI := Aside0.mk (And.intro hvi hx)
       have HXX := Aside0.mk (HXV.out i x hx)
       have hxb := HXX.out.1
       clear hvi hx
       go_wp2_with fail
       go_loopg [10] (x.length + 64) (fun gg v10 wr => ∃ k : Nat, k ≤ x.length + 64 ∧ x.length + 64 - k ≤ gg ∧ v10 = .int .i64 k ∧ Aside0 (SM w base gl T X T.length (.slice A3 T.length c3) wr))
       case atStart => exact ⟨0, Nat.zero_le _, by omega, rfl, HM⟩
       case round =>
        clear HM
        obtain ⟨k, hk, hg2, rfl, HM⟩ := hrel
        obtain ⟨wq, rfl⟩ : ∃ wq : World, wq = wr := ⟨_, rfl⟩
        have hC := (Kd.S_reads' HM.out.more).2.2
        obtain ⟨ad, Ar, cr, rfl, hcell, hcr, hCr⟩ := rowM_at hC i _ (mrows_get HVI.out.2 hlt)
        rw [List.append_nil] at hCr hcr
        have hrl : (x ++ List.replicate 64 (-100 - (i : Int))).length = x.length + 64 := by simp
        rw [hrl] at hcell
        have hout := HM.out.outer i vi HVI.out.1
        obtain ⟨Ai, ci, hvs, hrd⟩ := HM.out.reads i vi x HVI.out.1 HVI.out.2
        rw [hvs] at hout
        by_cases hlt2 : k < x.length + 64
        ·have hltz2 : (k : Int) < ((x.length + 64 : Nat) : Int) := by omega
         have hval : (x ++ List.replicate 64 (-100 - (i : Int)))[k]? = some (-100 - (i : Int)) := by
          rcases Nat.lt_or_ge k x.length with hkx | hkx
          ·rw [List.getElem?_append_left hkx, List.getElem?_eq_getElem hkx, HXX.out.2 k _ (List.getElem?_eq_getElem hkx)]
          ·rw [List.getElem?_append_right hkx, List.getElem?_replicate, if_pos (by omega)]
         obtain ⟨ar, rfl, hm⟩ := int_at hCr k _ hval
         have HMM := Aside0.mk HM.out
         by_cases hkx : k < x.length
         ·have hkxz : (k : Int) < (x.length : Int) := by omega
          have hkxd : decide ((k : Int) < (x.length : Int)) = true := decide_eq_true hkxz
          obtain ⟨gx, rfl, hm2⟩ := hrd k x[k] (List.getElem?_eq_getElem hkx)
          rw [HXX.out.2 k _ (List.getElem?_eq_getElem hkx)] at hm2
          clear hC hCr hcr hvs hrd hval hrl
          go_wp2_with fail
          go_roundg (x.length + 64 - (k + 1))
          case measure => omega
          case rel => exact ⟨k + 1, by omega, by omega, by go_num, HMM⟩
         ·have hkxz : ¬ (k : Int) < (x.length : Int) := by omega
          have hkxd : decide ((k : Int) < (x.length : Int)) = false := decide_eq_false hkxz
          clear hC hCr hcr hvs hrd hval hrl
          go_wp2_with fail
          go_roundg (x.length + 64 - (k + 1))
          case measure => omega
          case rel => exact ⟨k + 1, by omega, by omega, by go_num, HMM⟩
        ·have hltz2 : ¬ (k : Int) < ((x.length + 64 : Nat) : Int) := by omega
         have HMM := Aside0.mk HM.out
         clear hC hCr hcr hvs hrd hrl
         go_wp2_with fail
         go_roundg (T.length - (i + 1))
         case measure => omega
         case rel => exact ⟨i + 1, by omega, by omega, by go_num, HMM⟩
      ·have hltz : ¬ (i : Int) < (T.length : Int) := by omega
       go_wp2_with fail
       go_ret
       exact ⟨rfl, HM.out.below⟩
end Go.Proofs.YtfonajakaimnoaaDoor.C13

namespace Go.Proofs.YtfonajakaimnoaaDoor.C13
open Go.RowKit Go.Proofs.YtfonajakaimnoaaDoorW.PrintWords Go.Proofs.YtfonajakaimnoaaDoorW.PrintLast Go.Proofs.YtfonajakaimnoaaDoorW.PrintMore Go.Proofs.YtfonajakaimnoaaDoor.Lib Lent Go.Proofs.YtfonajakaimnoaaDoor.Fn Go.Proofs.YtfonajakaimnoaaDoor.C11 Go.Proofs.YtfonajakaimnoaaDoor.Lend
set_option linter.unusedVariables false
set_option linter.unusedSimpArgs false
attribute [local go_sem] max2_int min2_int max_two min_two max_three min_three max_four min_four
structure ZA (w : World) (XC MC NC : Array Value) (bm bn h0 h1 h2 k0 k1 k2 gz e0 gy e1 gu f0 gv f1 : Nat) (N1 O1 N2 O2 : LL) (W : World) : Prop where
 below : Below w.heap.size w W
 hx : W.heap[w.heap.size]? = some (.cells XC 27 (0, 0))
 mq : MQ (w.heap.size + 1) h0 h1 h2 (some ⟨gz, 0, none⟩) e0 N1 (some ⟨gy, 0, none⟩) e1 O1 W
 hm : W.heap[bm]? = some (.cells MC 24 (0, 0))
 nq : MQ (w.heap.size + 1) k0 k1 k2 (some ⟨gu, 0, none⟩) f0 N2 (some ⟨gv, 0, none⟩) f1 O2 W
 hn : W.heap[bn]? = some (.cells NC 24 (0, 0))
 o : h2 ≤ bm ∧ bm < k0 ∧ k2 ≤ bn
section
variable {w : World} {XC MC NC : Array Value} {bm bn h0 h1 h2 k0 k1 k2 gz e0 gy e1 gu f0 gv f1 : Nat} {N1 O1 N2 O2 N1' O1' N2' O2' : LL} {W W' : World}
theorem ZA.low (h : ZA w XC MC NC bm bn h0 h1 h2 k0 k1 k2 gz e0 gy e1 gu f0 gv f1 N1 O1 N2 O2 W) {g : Nat} (hb : Below g W W') (hg : bn < g) : ZA w XC MC NC bm bn h0 h1 h2 k0 k1 k2 gz e0 gy e1 gu f0 gv f1 N1 O1 N2 O2 W' := by
 have o := h.o
 have om := h.mq.o
 have on := h.nq.o
 have hs := hb.size
 exact ⟨h.below.trans (hb.mono (by omega)), (hb.block _ (by omega)).trans h.hx, h.mq.move (fun k _ hk => hb.block k (by omega)) (by omega), (hb.block _ (by omega)).trans h.hm, h.nq.move (fun k _ hk => hb.block k (by omega)) (by omega), (hb.block _ (by omega)).trans h.hn, o⟩
theorem ZA.step (h : ZA w XC MC NC bm bn h0 h1 h2 k0 k1 k2 gz e0 gy e1 gu f0 gv f1 N1 O1 N2 O2 W) (hb : Below W.heap.size W W') : ZA w XC MC NC bm bn h0 h1 h2 k0 k1 k2 gz e0 gy e1 gu f0 gv f1 N1 O1 N2 O2 W' :=
 h.low hb (blk_lt h.hn)
theorem ZA.turn1 (h : ZA w XC MC NC bm bn h0 h1 h2 k0 k1 k2 gz e0 gy e1 gu f0 gv f1 N1 O1 N2 O2 W) (hq : MQ (w.heap.size + 1) h0 h1 h2 (some ⟨gz, 0, none⟩) e0 N1' (some ⟨gy, 0, none⟩) e1 O1' W') (hb : Below h0 W W') (hk : ∀ k, h2 ≤ k → k < W.heap.size → W'.heap[k]? = W.heap[k]?) : ZA w XC MC NC bm bn h0 h1 h2 k0 k1 k2 gz e0 gy e1 gu f0 gv f1 N1' O1' N2 O2 W' := by
 have o := h.o
 have om := h.mq.o
 have on := h.nq.o
 have l1 := blk_lt h.hm
 have l2 := blk_lt h.hn
 have hs := hb.size
 exact ⟨h.below.trans (hb.mono (by omega)), (hb.block _ (by omega)).trans h.hx, hq, (hk _ (by omega) l1).trans h.hm, h.nq.move (fun k hk1 hk2 => hk k (by omega) (by omega)) (by omega), (hk _ (by omega) l2).trans h.hn, o⟩
theorem ZA.turn2 (h : ZA w XC MC NC bm bn h0 h1 h2 k0 k1 k2 gz e0 gy e1 gu f0 gv f1 N1 O1 N2 O2 W) (hq : MQ (w.heap.size + 1) k0 k1 k2 (some ⟨gu, 0, none⟩) f0 N2' (some ⟨gv, 0, none⟩) f1 O2' W') (hb : Below k0 W W') (hk : ∀ k, k2 ≤ k → k < W.heap.size → W'.heap[k]? = W.heap[k]?) : ZA w XC MC NC bm bn h0 h1 h2 k0 k1 k2 gz e0 gy e1 gu f0 gv f1 N1 O1 N2' O2' W' := by
 have o := h.o
 have om := h.mq.o
 have on := h.nq.o
 have l2 := blk_lt h.hn
 have hs := hb.size
 exact ⟨h.below.trans (hb.mono (by omega)), (hb.block _ (by omega)).trans h.hx, h.mq.move (fun k _ hk2 => hb.block k (by omega)) (by omega), (hb.block _ (by omega)).trans h.hm, hq, (hk _ (by omega) l2).trans h.hn, o⟩
end
theorem MQ.form {base h0 h1 h2 : Nat} {A0 : Option Addr} {c0 : Nat} {N : LL} {A1 : Option Addr} {c1 : Nat} {O : LL} {W : World} (h : MQ base h0 h1 h2 A0 c0 N A1 c1 O W) : ∃ gz gy, A0 = some ⟨gz, 0, none⟩ ∧ A1 = some ⟨gy, 0, none⟩ := by
 obtain ⟨gz, cap, e, _⟩ := Kd.S_form h.p0 (by rw [rows64_length]; omega)
 obtain ⟨gy, cap', e', _⟩ := Kd.S_form h.p1 (by rw [rows64_length]; omega)
 injection e with e1 _ _
 injection e' with e2 _ _
 exact ⟨gz, gy, e1, e2⟩
structure Bd (N O : LL) : Prop where
 n : N.length ≤ 1048576
 o : O.length ≤ 1048576
 nr : ∀ l ∈ N, l.length ≤ 1048576
 or : ∀ l ∈ O, l.length ≤ 1048576
theorem Bd.b1 {N O : LL} (h : Bd N O) : N.length ≤ 5000000000000 ∧ O.length ≤ 5000000000000 := ⟨by have := h.n; omega, by have := h.o; omega⟩
theorem Bd.b2 {N O : LL} (h : Bd N O) : (∀ l ∈ N, l.length ≤ 17000000000000) ∧ (∀ l ∈ O, l.length ≤ 17000000000000) := ⟨fun l hl => by have := h.nr l hl; omega, fun l hl => by have := h.or l hl; omega⟩
theorem good_stAt {N1 N2 : LL} {sn : Nat} {s1 s2 : Int} (h1 : RowsOk sn N1) (h2 : RowsOk sn N2) (hs1 : 0 ≤ s1 ∧ s1 < N1.length) (hs2 : 0 ≤ s2 ∧ s2 < N2.length) : ∀ i, (∀ j < i, j < (stAt N1 N2 sn s1 s2 j).length) → Good N1.length N2.length (stAt N1 N2 sn s1 s2 i) := by
 intro i
 induction i with
 | zero => intro _; exact good_start hs1 hs2
 | succ i ih =>
  intro h
  have hg := ih (fun j hj => h j (by omega))
  have hi := h i (by omega)
  have hat := good_at hg hi
  exact hg.ext h1 h2 rfl rfl hi hat.1 hat.2 sn (Nat.le_refl _)
theorem wayB_len (st : List P4) : ∀ n i, (wayB st n i).length ≤ n := by
 intro n
 induction n with
 | zero => intro i; exact Nat.le_refl _
 | succ n ih =>
  intro i
  show (if (st.getD i.toNat z4).from_ ≥ 0 then (st.getD i.toNat z4).sym :: wayB st n (st.getD i.toNat z4).from_ else []).length ≤ n + 1
  split
  ·have := ih (st.getD i.toNat z4).from_
   simp only [List.length_cons]
   omega
  ·simp
theorem apart_len {s1 s2 sy : Int} {N1 O1 N2 O2 : LL} {word : List Int} {b : Bool} {r : Int} (h : ApartS s1 N1 O1 s2 N2 O2 sy word b r) (hb : N1.length ≤ 1048576 ∧ N2.length ≤ 1048576) : word.length ≤ 1099511627776 := by
 unfold ApartS at h
 split at h
 ·rename_i hm
  rw [Bool.and_eq_true] at hm
  obtain ⟨_, _, _, hs1, hs1', hr1⟩ := may_open hm.1
  obtain ⟨_, _, _, hs2, hs2', hr2⟩ := may_open hm.2
  obtain ⟨⟨i, hi, hc⟩, _⟩ := h
  have hM : N1.length * N2.length ≤ 1099511627776 := Nat.mul_le_mul hb.1 hb.2
  rcases hc with ⟨hl, _, rfl, _⟩ | ⟨_, rfl, _⟩
  ·have hg := (good_stAt hr1 hr2 ⟨hs1, hs1'⟩ ⟨hs2, hs2'⟩ i (fun j hj => (hi j hj).1)).bound
   have := wayB_len (stAt N1 N2 sy.toNat s1 s2 i) (i + 1) i
   unfold way
   rw [List.length_reverse]
   omega
  ·simp
 ·rw [h.1]; simp
theorem same_self {A B : Option Addr} {c d : Nat} {x : List Int} {w : World} (h : Kd.C kI w A x.length x) (hc : x.length ≤ c) (h' : Kd.C kI w B x.length x) (hd : x.length ≤ d) :
  Calls Tryd.prog 16 #[.slice A x.length c, .slice B x.length d] w fun e w' => e = .returned (.bool true) ∧ Below w.heap.size w w' :=
 (sameI_c h hc h' hd).mono (fun e w' ⟨he, hb⟩ => ⟨by rw [he]; simp, hb⟩)
set_option maxHeartbeats 16000000 in
set_option maxRecDepth 100000 in
theorem law_calls {s1 s2 sy : Int} {A0 : Option Addr} {c0 : Nat} {N1 : LL} {A1 : Option Addr} {c1 : Nat} {O1 : LL} {A2 : Option Addr} {c2 : Nat} {N2 : LL} {A3 : Option Addr} {c3 : Nat} {O2 : LL} {A4 : Option Addr} {c4 wl : Nat} {w : World} {a0 a1 a2 : Addr}
  (h1 : Mc A0 c0 N1 A1 c1 O1 w) (h2 : Mc A2 c2 N2 A3 c3 O2 w) (hS : Sen a0 a1 a2 w) (hb1 : Bd N1 O1) (hb2 : Bd N2 O2) :
  Calls Tryd.prog 3 #[.agg #[.int .i64 s1, .slice A0 N1.length c0, .slice A1 O1.length c1, .int .i64 s2, .slice A2 N2.length c2, .slice A3 O2.length c3, .int .i64 sy, .slice A4 wl c4]] w fun e w' => e = .returned (.bool true) ∧ Below w.heap.size w w' := by
 have hu := Tryd.underlying24
 have hu2 := Tryd.underlying27
 have H1 := Aside0.mk h1
 have H2 := Aside0.mk h2
 have HS := Aside0.mk hS
 have HN := Aside0.mk (And.intro hb1 hb2)
 clear h1 h2 hS hb1 hb2
 go_enter Tryd.func3, Tryd.ntmps3
 go_wp2_with fail
 have HX := Aside0.mk (heap_alloc_new w (.cells #[.int .i64 s1, .slice A0 N1.length c0, .slice A1 O1.length c1, .int .i64 s2, .slice A2 N2.length c2, .slice A3 O2.length c3, .int .i64 sy, .slice A4 wl c4] 27))
 have HB := Aside0.mk (below_alloc (Below.refl w.heap.size w) (.cells #[.int .i64 s1, .slice A0 N1.length c0, .slice A1 O1.length c1, .int .i64 s2, .slice A2 N2.length c2, .slice A3 O2.length c3, .int .i64 sy, .slice A4 wl c4] 27))
 have HG : Aside0 (w.heap.size + 1 ≤ (w.alloc (.cells #[.int .i64 s1, .slice A0 N1.length c0, .slice A1 O1.length c1, .int .i64 s2, .slice A2 N2.length c2, .slice A3 O2.length c3, .int .i64 sy, .slice A4 wl c4] 27)).heap.size) := ⟨by simp⟩
 refine (twin_calls (H1.out.below HB.out) HN.out.1.b1 HN.out.1.b2).mono ?_
 rintro e w1 ⟨Z0, Z1, e0, e1, h0, h1, h2, rfl, hq, hb⟩
 replace HX := Aside0.mk ((hb.block _ (blk_lt HX.out)).trans HX.out)
 replace HB := Aside0.mk (below_step HB.out hb)
 obtain ⟨gz, gy, rfl, rfl⟩ := hq.form
 have HQ := Aside0.mk (hq.lower HG.out)
 clear hq hb HG
 have x0 : w1.cell? ⟨w.heap.size, 0, none⟩ = some (.int .i64 s1) := (blk_cell HX.out 0).trans rfl
 have x1 : w1.cell? ⟨w.heap.size, 1, none⟩ = some (.slice A0 N1.length c0) := (blk_cell HX.out 1).trans rfl
 have x2 : w1.cell? ⟨w.heap.size, 2, none⟩ = some (.slice A1 O1.length c1) := (blk_cell HX.out 2).trans rfl
 have x3 : w1.cell? ⟨w.heap.size, 3, none⟩ = some (.int .i64 s2) := (blk_cell HX.out 3).trans rfl
 have x4 : w1.cell? ⟨w.heap.size, 4, none⟩ = some (.slice A2 N2.length c2) := (blk_cell HX.out 4).trans rfl
 have x5 : w1.cell? ⟨w.heap.size, 5, none⟩ = some (.slice A3 O2.length c3) := (blk_cell HX.out 5).trans rfl
 have x6 : w1.cell? ⟨w.heap.size, 6, none⟩ = some (.int .i64 sy) := (blk_cell HX.out 6).trans rfl
 go_upto_region 2 with fail
 have HM := Aside0.mk (heap_alloc_new w1 (.cells #[.int .i64 s1, .slice (some ⟨gz, 0, none⟩) N1.length e0, .slice (some ⟨gy, 0, none⟩) O1.length e1] 24))
 have hb := below_alloc (Below.refl w1.heap.size w1) (.cells #[.int .i64 s1, .slice (some ⟨gz, 0, none⟩) N1.length e0, .slice (some ⟨gy, 0, none⟩) O1.length e1] 24)
 have HO : Aside0 (h2 ≤ w1.heap.size) := ⟨HQ.out.o.2.2.2⟩
 replace HX := Aside0.mk ((hb.block _ (blk_lt HX.out)).trans HX.out)
 replace HB := Aside0.mk (below_step HB.out hb)
 replace HQ := Aside0.mk (HQ.out.step hb)
 clear hb x0 x1 x2 x3 x4 x5 x6
 have HG : Aside0 (w1.heap.size < (w1.alloc (.cells #[.int .i64 s1, .slice (some ⟨gz, 0, none⟩) N1.length e0, .slice (some ⟨gy, 0, none⟩) O1.length e1] 24)).heap.size ∧ w.heap.size + 1 ≤ (w1.alloc (.cells #[.int .i64 s1, .slice (some ⟨gz, 0, none⟩) N1.length e0, .slice (some ⟨gy, 0, none⟩) O1.length e1] 24)).heap.size) := ⟨by have := blk_lt HX.out; have := blk_lt HM.out; omega⟩
 generalize World.alloc _ _ = w2 at HX HB HM HQ HG ⊢
 generalize w1.heap.size = bm at HM HO HG ⊢
 have x0 : w2.cell? ⟨w.heap.size, 0, none⟩ = some (.int .i64 s1) := (blk_cell HX.out 0).trans rfl
 have x1 : w2.cell? ⟨w.heap.size, 1, none⟩ = some (.slice A0 N1.length c0) := (blk_cell HX.out 1).trans rfl
 have x2 : w2.cell? ⟨w.heap.size, 2, none⟩ = some (.slice A1 O1.length c1) := (blk_cell HX.out 2).trans rfl
 have x3 : w2.cell? ⟨w.heap.size, 3, none⟩ = some (.int .i64 s2) := (blk_cell HX.out 3).trans rfl
 have x4 : w2.cell? ⟨w.heap.size, 4, none⟩ = some (.slice A2 N2.length c2) := (blk_cell HX.out 4).trans rfl
 have x5 : w2.cell? ⟨w.heap.size, 5, none⟩ = some (.slice A3 O2.length c3) := (blk_cell HX.out 5).trans rfl
 have x6 : w2.cell? ⟨w.heap.size, 6, none⟩ = some (.int .i64 sy) := (blk_cell HX.out 6).trans rfl
 go_wp2_with fail
 refine (twin_calls (H2.out.below HB.out) HN.out.2.b1 HN.out.2.b2).mono ?_
 rintro e w3 ⟨Z2, Z3, f0, f1, k0, k1, k2, rfl, hq, hb⟩
 obtain ⟨gu, gv, rfl, rfl⟩ := hq.form
 have hko := hq.o
 have HZ : Aside0 (ZA w #[.int .i64 s1, .slice A0 N1.length c0, .slice A1 O1.length c1, .int .i64 s2, .slice A2 N2.length c2, .slice A3 O2.length c3, .int .i64 sy, .slice A4 wl c4] #[.int .i64 s1, .slice (some ⟨gz, 0, none⟩) N1.length e0, .slice (some ⟨gy, 0, none⟩) O1.length e1] #[.int .i64 s2, .slice (some ⟨gu, 0, none⟩) N2.length f0, .slice (some ⟨gv, 0, none⟩) O2.length f1] bm w3.heap.size h0 h1 h2 k0 k1 k2 gz e0 gy e1 gu f0 gv f1 N1 O1 N2 O2 (w3.alloc (.cells #[.int .i64 s2, .slice (some ⟨gu, 0, none⟩) N2.length f0, .slice (some ⟨gv, 0, none⟩) O2.length f1] 24))) :=
  ⟨⟨below_alloc (below_step HB.out hb) _, blk_alloc ((hb.block _ (blk_lt HX.out)).trans HX.out) _, (HQ.out.step hb).step (below_alloc (Below.refl _ _) _), blk_alloc ((hb.block _ (blk_lt HM.out)).trans HM.out) _, (hq.lower HG.out.2).step (below_alloc (Below.refl _ _) _), heap_alloc_new _ _, by have := HO.out; have := HG.out; omega⟩⟩
 clear hq hb hko HX HB HM HQ HO HG x0 x1 x2 x3 x4 x5 x6
 have HX2 := Aside0.mk (blk_cell HZ.out.hx 0)
 go_upto_region 3 with fail
 generalize w3.heap.size = bn at HZ ⊢
 generalize World.alloc _ _ = w4 at HZ ⊢
 have x0 : w4.cell? ⟨w.heap.size, 0, none⟩ = some (.int .i64 s1) := (blk_cell HZ.out.hx 0).trans rfl
 have x1 : w4.cell? ⟨w.heap.size, 1, none⟩ = some (.slice A0 N1.length c0) := (blk_cell HZ.out.hx 1).trans rfl
 have x2 : w4.cell? ⟨w.heap.size, 2, none⟩ = some (.slice A1 O1.length c1) := (blk_cell HZ.out.hx 2).trans rfl
 have x3 : w4.cell? ⟨w.heap.size, 3, none⟩ = some (.int .i64 s2) := (blk_cell HZ.out.hx 3).trans rfl
 have x4 : w4.cell? ⟨w.heap.size, 4, none⟩ = some (.slice A2 N2.length c2) := (blk_cell HZ.out.hx 4).trans rfl
 have x5 : w4.cell? ⟨w.heap.size, 5, none⟩ = some (.slice A3 O2.length c3) := (blk_cell HZ.out.hx 5).trans rfl
 have x6 : w4.cell? ⟨w.heap.size, 6, none⟩ = some (.int .i64 sy) := (blk_cell HZ.out.hx 6).trans rfl
 have m0 : w4.cell? ⟨bm, 0, none⟩ = some (.int .i64 s1) := (blk_cell HZ.out.hm 0).trans rfl
 have m1 : w4.cell? ⟨bm, 1, none⟩ = some (.slice (some ⟨gz, 0, none⟩) N1.length e0) := (blk_cell HZ.out.hm 1).trans rfl
 have m2 : w4.cell? ⟨bm, 2, none⟩ = some (.slice (some ⟨gy, 0, none⟩) O1.length e1) := (blk_cell HZ.out.hm 2).trans rfl
 have n0 : w4.cell? ⟨bn, 0, none⟩ = some (.int .i64 s2) := (blk_cell HZ.out.hn 0).trans rfl
 have n1 : w4.cell? ⟨bn, 1, none⟩ = some (.slice (some ⟨gu, 0, none⟩) N2.length f0) := (blk_cell HZ.out.hn 1).trans rfl
 have n2 : w4.cell? ⟨bn, 2, none⟩ = some (.slice (some ⟨gv, 0, none⟩) O2.length f1) := (blk_cell HZ.out.hn 2).trans rfl
 go_wp2_with fail
 obtain ⟨ga, hga⟩ : ∃ g, g = w4.heap.size := ⟨_, rfl⟩
 have HGA := Aside0.mk (show bn < ga ∧ ga = w4.heap.size from ⟨by rw [hga]; exact blk_lt HZ.out.hn, hga⟩)
 clear hga
 refine (apart_calls (HZ.out.mq.mc) (HZ.out.nq.mc) (HS.out.step HZ.out.below) ⟨HN.out.1.n, HN.out.2.n⟩).mono ?_
 rintro e w5 ⟨va, wa, ba, ra, rfl, hr, hb, hap⟩
 obtain ⟨Aa, ca, rfl⟩ := Kd.R_slice hr
 have HRA := Aside0.mk (Kd.R_lower hr (Nat.le_of_eq HGA.out.2))
 have HAP := Aside0.mk hap
 have HC := Aside0.mk hap.code
 replace HZ := Aside0.mk (HZ.out.step hb)
 have HGB : Aside0 (ga ≤ w5.heap.size) := ⟨by have := hb.size; have := HGA.out; omega⟩
 have HGT := HGB
 clear hr hb hap
 clear x0 x1 x2 x3 x4 x5 x6 m0 m1 m2 n0 n1 n2
 have x0 : w5.cell? ⟨w.heap.size, 0, none⟩ = some (.int .i64 s1) := (blk_cell HZ.out.hx 0).trans rfl
 have x1 : w5.cell? ⟨w.heap.size, 1, none⟩ = some (.slice A0 N1.length c0) := (blk_cell HZ.out.hx 1).trans rfl
 have x2 : w5.cell? ⟨w.heap.size, 2, none⟩ = some (.slice A1 O1.length c1) := (blk_cell HZ.out.hx 2).trans rfl
 have x3 : w5.cell? ⟨w.heap.size, 3, none⟩ = some (.int .i64 s2) := (blk_cell HZ.out.hx 3).trans rfl
 have x4 : w5.cell? ⟨w.heap.size, 4, none⟩ = some (.slice A2 N2.length c2) := (blk_cell HZ.out.hx 4).trans rfl
 have x5 : w5.cell? ⟨w.heap.size, 5, none⟩ = some (.slice A3 O2.length c3) := (blk_cell HZ.out.hx 5).trans rfl
 have x6 : w5.cell? ⟨w.heap.size, 6, none⟩ = some (.int .i64 sy) := (blk_cell HZ.out.hx 6).trans rfl
 have m0 : w5.cell? ⟨bm, 0, none⟩ = some (.int .i64 s1) := (blk_cell HZ.out.hm 0).trans rfl
 have m1 : w5.cell? ⟨bm, 1, none⟩ = some (.slice (some ⟨gz, 0, none⟩) N1.length e0) := (blk_cell HZ.out.hm 1).trans rfl
 have m2 : w5.cell? ⟨bm, 2, none⟩ = some (.slice (some ⟨gy, 0, none⟩) O1.length e1) := (blk_cell HZ.out.hm 2).trans rfl
 have n0 : w5.cell? ⟨bn, 0, none⟩ = some (.int .i64 s2) := (blk_cell HZ.out.hn 0).trans rfl
 have n1 : w5.cell? ⟨bn, 1, none⟩ = some (.slice (some ⟨gu, 0, none⟩) N2.length f0) := (blk_cell HZ.out.hn 1).trans rfl
 have n2 : w5.cell? ⟨bn, 2, none⟩ = some (.slice (some ⟨gv, 0, none⟩) O2.length f1) := (blk_cell HZ.out.hn 2).trans rfl
 go_wp2_with fail
 refine (apart_calls (HZ.out.mq.mc) (HZ.out.nq.mc) (HS.out.step HZ.out.below) ⟨HN.out.1.n, HN.out.2.n⟩).mono ?_
 rintro e w6 ⟨vc, wc, bc, rc, rfl, hr, hb, hap⟩
 obtain ⟨rfl, rfl, rfl⟩ := HAP.out.uniq hap
 obtain ⟨Ac, cc, rfl⟩ := Kd.R_slice hr
 have HRC := Aside0.mk hr
 have HLA : Aside0 (∀ k, (Value.slice Aa wa.length ca).ownBlock = some k → k < w5.heap.size) := ⟨fun k hk => ((Kd.R_bound HRA.out).1 k hk).2.2.1⟩
 replace HRA := Aside0.mk (Kd.R_below HRA.out hb)
 replace HGT := Aside0.mk (Nat.le_trans HGT.out hb.size)
 replace HZ := Aside0.mk (HZ.out.step hb)
 clear hr hb hap
 clear x0 x1 x2 x3 x4 x5 x6 m0 m1 m2 n0 n1 n2
 have x0 : w6.cell? ⟨w.heap.size, 0, none⟩ = some (.int .i64 s1) := (blk_cell HZ.out.hx 0).trans rfl
 have x1 : w6.cell? ⟨w.heap.size, 1, none⟩ = some (.slice A0 N1.length c0) := (blk_cell HZ.out.hx 1).trans rfl
 have x2 : w6.cell? ⟨w.heap.size, 2, none⟩ = some (.slice A1 O1.length c1) := (blk_cell HZ.out.hx 2).trans rfl
 have x3 : w6.cell? ⟨w.heap.size, 3, none⟩ = some (.int .i64 s2) := (blk_cell HZ.out.hx 3).trans rfl
 have x4 : w6.cell? ⟨w.heap.size, 4, none⟩ = some (.slice A2 N2.length c2) := (blk_cell HZ.out.hx 4).trans rfl
 have x5 : w6.cell? ⟨w.heap.size, 5, none⟩ = some (.slice A3 O2.length c3) := (blk_cell HZ.out.hx 5).trans rfl
 have x6 : w6.cell? ⟨w.heap.size, 6, none⟩ = some (.int .i64 sy) := (blk_cell HZ.out.hx 6).trans rfl
 have m0 : w6.cell? ⟨bm, 0, none⟩ = some (.int .i64 s1) := (blk_cell HZ.out.hm 0).trans rfl
 have m1 : w6.cell? ⟨bm, 1, none⟩ = some (.slice (some ⟨gz, 0, none⟩) N1.length e0) := (blk_cell HZ.out.hm 1).trans rfl
 have m2 : w6.cell? ⟨bm, 2, none⟩ = some (.slice (some ⟨gy, 0, none⟩) O1.length e1) := (blk_cell HZ.out.hm 2).trans rfl
 have n0 : w6.cell? ⟨bn, 0, none⟩ = some (.int .i64 s2) := (blk_cell HZ.out.hn 0).trans rfl
 have n1 : w6.cell? ⟨bn, 1, none⟩ = some (.slice (some ⟨gu, 0, none⟩) N2.length f0) := (blk_cell HZ.out.hn 1).trans rfl
 have n2 : w6.cell? ⟨bn, 2, none⟩ = some (.slice (some ⟨gv, 0, none⟩) O2.length f1) := (blk_cell HZ.out.hn 2).trans rfl
 go_wp2_with fail
 refine (kept_calls HZ.out.mq (H1.out.below HZ.out.below) HN.out.1.b1 HN.out.1.b2).mono ?_
 rintro e w7 ⟨rfl, hb⟩
 replace HRA := Aside0.mk (Kd.R_below HRA.out hb)
 replace HGT := Aside0.mk (Nat.le_trans HGT.out hb.size)
 replace HRC := Aside0.mk (Kd.R_below HRC.out hb)
 replace HZ := Aside0.mk (HZ.out.step hb)
 clear hb
 clear x0 x1 x2 x3 x4 x5 x6 m0 m1 m2 n0 n1 n2
 have x0 : w7.cell? ⟨w.heap.size, 0, none⟩ = some (.int .i64 s1) := (blk_cell HZ.out.hx 0).trans rfl
 have x1 : w7.cell? ⟨w.heap.size, 1, none⟩ = some (.slice A0 N1.length c0) := (blk_cell HZ.out.hx 1).trans rfl
 have x2 : w7.cell? ⟨w.heap.size, 2, none⟩ = some (.slice A1 O1.length c1) := (blk_cell HZ.out.hx 2).trans rfl
 have x3 : w7.cell? ⟨w.heap.size, 3, none⟩ = some (.int .i64 s2) := (blk_cell HZ.out.hx 3).trans rfl
 have x4 : w7.cell? ⟨w.heap.size, 4, none⟩ = some (.slice A2 N2.length c2) := (blk_cell HZ.out.hx 4).trans rfl
 have x5 : w7.cell? ⟨w.heap.size, 5, none⟩ = some (.slice A3 O2.length c3) := (blk_cell HZ.out.hx 5).trans rfl
 have x6 : w7.cell? ⟨w.heap.size, 6, none⟩ = some (.int .i64 sy) := (blk_cell HZ.out.hx 6).trans rfl
 have m0 : w7.cell? ⟨bm, 0, none⟩ = some (.int .i64 s1) := (blk_cell HZ.out.hm 0).trans rfl
 have m1 : w7.cell? ⟨bm, 1, none⟩ = some (.slice (some ⟨gz, 0, none⟩) N1.length e0) := (blk_cell HZ.out.hm 1).trans rfl
 have m2 : w7.cell? ⟨bm, 2, none⟩ = some (.slice (some ⟨gy, 0, none⟩) O1.length e1) := (blk_cell HZ.out.hm 2).trans rfl
 have n0 : w7.cell? ⟨bn, 0, none⟩ = some (.int .i64 s2) := (blk_cell HZ.out.hn 0).trans rfl
 have n1 : w7.cell? ⟨bn, 1, none⟩ = some (.slice (some ⟨gu, 0, none⟩) N2.length f0) := (blk_cell HZ.out.hn 1).trans rfl
 have n2 : w7.cell? ⟨bn, 2, none⟩ = some (.slice (some ⟨gv, 0, none⟩) O2.length f1) := (blk_cell HZ.out.hn 2).trans rfl
 go_wp2_with fail
 refine (kept_calls HZ.out.nq (H2.out.below HZ.out.below) HN.out.2.b1 HN.out.2.b2).mono ?_
 rintro e w8 ⟨rfl, hb⟩
 replace HRA := Aside0.mk (Kd.R_below HRA.out hb)
 replace HGT := Aside0.mk (Nat.le_trans HGT.out hb.size)
 replace HRC := Aside0.mk (Kd.R_below HRC.out hb)
 replace HZ := Aside0.mk (HZ.out.step hb)
 clear hb
 clear x0 x1 x2 x3 x4 x5 x6 m0 m1 m2 n0 n1 n2
 have x0 : w8.cell? ⟨w.heap.size, 0, none⟩ = some (.int .i64 s1) := (blk_cell HZ.out.hx 0).trans rfl
 have x1 : w8.cell? ⟨w.heap.size, 1, none⟩ = some (.slice A0 N1.length c0) := (blk_cell HZ.out.hx 1).trans rfl
 have x2 : w8.cell? ⟨w.heap.size, 2, none⟩ = some (.slice A1 O1.length c1) := (blk_cell HZ.out.hx 2).trans rfl
 have x3 : w8.cell? ⟨w.heap.size, 3, none⟩ = some (.int .i64 s2) := (blk_cell HZ.out.hx 3).trans rfl
 have x4 : w8.cell? ⟨w.heap.size, 4, none⟩ = some (.slice A2 N2.length c2) := (blk_cell HZ.out.hx 4).trans rfl
 have x5 : w8.cell? ⟨w.heap.size, 5, none⟩ = some (.slice A3 O2.length c3) := (blk_cell HZ.out.hx 5).trans rfl
 have x6 : w8.cell? ⟨w.heap.size, 6, none⟩ = some (.int .i64 sy) := (blk_cell HZ.out.hx 6).trans rfl
 have m0 : w8.cell? ⟨bm, 0, none⟩ = some (.int .i64 s1) := (blk_cell HZ.out.hm 0).trans rfl
 have m1 : w8.cell? ⟨bm, 1, none⟩ = some (.slice (some ⟨gz, 0, none⟩) N1.length e0) := (blk_cell HZ.out.hm 1).trans rfl
 have m2 : w8.cell? ⟨bm, 2, none⟩ = some (.slice (some ⟨gy, 0, none⟩) O1.length e1) := (blk_cell HZ.out.hm 2).trans rfl
 have n0 : w8.cell? ⟨bn, 0, none⟩ = some (.int .i64 s2) := (blk_cell HZ.out.hn 0).trans rfl
 have n1 : w8.cell? ⟨bn, 1, none⟩ = some (.slice (some ⟨gu, 0, none⟩) N2.length f0) := (blk_cell HZ.out.hn 1).trans rfl
 have n2 : w8.cell? ⟨bn, 2, none⟩ = some (.slice (some ⟨gv, 0, none⟩) O2.length f1) := (blk_cell HZ.out.hn 2).trans rfl
 go_wp2_with fail
 refine (refApart_calls (H1.out.below HZ.out.below) (H2.out.below HZ.out.below) ⟨HN.out.1.n, HN.out.2.n⟩).mono ?_
 rintro e w9 ⟨vb, wb, bb, rb, rfl, hr, hb, hap⟩
 obtain ⟨rfl, rfl, rfl⟩ := HAP.out.uniq hap
 obtain ⟨Ab, cb, rfl⟩ := Kd.R_slice hr
 have HRB := Aside0.mk hr
 replace HRA := Aside0.mk (Kd.R_below HRA.out hb)
 replace HGT := Aside0.mk (Nat.le_trans HGT.out hb.size)
 replace HRC := Aside0.mk (Kd.R_below HRC.out hb)
 replace HZ := Aside0.mk (HZ.out.step hb)
 clear hr hb hap
 clear x0 x1 x2 x3 x4 x5 x6 m0 m1 m2 n0 n1 n2
 have x0 : w9.cell? ⟨w.heap.size, 0, none⟩ = some (.int .i64 s1) := (blk_cell HZ.out.hx 0).trans rfl
 have x1 : w9.cell? ⟨w.heap.size, 1, none⟩ = some (.slice A0 N1.length c0) := (blk_cell HZ.out.hx 1).trans rfl
 have x2 : w9.cell? ⟨w.heap.size, 2, none⟩ = some (.slice A1 O1.length c1) := (blk_cell HZ.out.hx 2).trans rfl
 have x3 : w9.cell? ⟨w.heap.size, 3, none⟩ = some (.int .i64 s2) := (blk_cell HZ.out.hx 3).trans rfl
 have x4 : w9.cell? ⟨w.heap.size, 4, none⟩ = some (.slice A2 N2.length c2) := (blk_cell HZ.out.hx 4).trans rfl
 have x5 : w9.cell? ⟨w.heap.size, 5, none⟩ = some (.slice A3 O2.length c3) := (blk_cell HZ.out.hx 5).trans rfl
 have x6 : w9.cell? ⟨w.heap.size, 6, none⟩ = some (.int .i64 sy) := (blk_cell HZ.out.hx 6).trans rfl
 have m0 : w9.cell? ⟨bm, 0, none⟩ = some (.int .i64 s1) := (blk_cell HZ.out.hm 0).trans rfl
 have m1 : w9.cell? ⟨bm, 1, none⟩ = some (.slice (some ⟨gz, 0, none⟩) N1.length e0) := (blk_cell HZ.out.hm 1).trans rfl
 have m2 : w9.cell? ⟨bm, 2, none⟩ = some (.slice (some ⟨gy, 0, none⟩) O1.length e1) := (blk_cell HZ.out.hm 2).trans rfl
 have n0 : w9.cell? ⟨bn, 0, none⟩ = some (.int .i64 s2) := (blk_cell HZ.out.hn 0).trans rfl
 have n1 : w9.cell? ⟨bn, 1, none⟩ = some (.slice (some ⟨gu, 0, none⟩) N2.length f0) := (blk_cell HZ.out.hn 1).trans rfl
 have n2 : w9.cell? ⟨bn, 2, none⟩ = some (.slice (some ⟨gv, 0, none⟩) O2.length f1) := (blk_cell HZ.out.hn 2).trans rfl
 go_wp2_with fail
 refine (same_self (Kd.R_reads' HRA.out).2.2 (Kd.R_reads' HRA.out).2.1 (Kd.R_reads' HRB.out).2.2 (Kd.R_reads' HRB.out).2.1).mono ?_
 rintro e w10 ⟨rfl, hb⟩
 replace HRA := Aside0.mk (Kd.R_below HRA.out hb)
 replace HGT := Aside0.mk (Nat.le_trans HGT.out hb.size)
 replace HRC := Aside0.mk (Kd.R_below HRC.out hb)
 replace HZ := Aside0.mk (HZ.out.step hb)
 replace HRB := Aside0.mk (Kd.R_below HRB.out hb)
 clear hb
 clear x0 x1 x2 x3 x4 x5 x6 m0 m1 m2 n0 n1 n2
 have x0 : w10.cell? ⟨w.heap.size, 0, none⟩ = some (.int .i64 s1) := (blk_cell HZ.out.hx 0).trans rfl
 have x1 : w10.cell? ⟨w.heap.size, 1, none⟩ = some (.slice A0 N1.length c0) := (blk_cell HZ.out.hx 1).trans rfl
 have x2 : w10.cell? ⟨w.heap.size, 2, none⟩ = some (.slice A1 O1.length c1) := (blk_cell HZ.out.hx 2).trans rfl
 have x3 : w10.cell? ⟨w.heap.size, 3, none⟩ = some (.int .i64 s2) := (blk_cell HZ.out.hx 3).trans rfl
 have x4 : w10.cell? ⟨w.heap.size, 4, none⟩ = some (.slice A2 N2.length c2) := (blk_cell HZ.out.hx 4).trans rfl
 have x5 : w10.cell? ⟨w.heap.size, 5, none⟩ = some (.slice A3 O2.length c3) := (blk_cell HZ.out.hx 5).trans rfl
 have x6 : w10.cell? ⟨w.heap.size, 6, none⟩ = some (.int .i64 sy) := (blk_cell HZ.out.hx 6).trans rfl
 have m0 : w10.cell? ⟨bm, 0, none⟩ = some (.int .i64 s1) := (blk_cell HZ.out.hm 0).trans rfl
 have m1 : w10.cell? ⟨bm, 1, none⟩ = some (.slice (some ⟨gz, 0, none⟩) N1.length e0) := (blk_cell HZ.out.hm 1).trans rfl
 have m2 : w10.cell? ⟨bm, 2, none⟩ = some (.slice (some ⟨gy, 0, none⟩) O1.length e1) := (blk_cell HZ.out.hm 2).trans rfl
 have n0 : w10.cell? ⟨bn, 0, none⟩ = some (.int .i64 s2) := (blk_cell HZ.out.hn 0).trans rfl
 have n1 : w10.cell? ⟨bn, 1, none⟩ = some (.slice (some ⟨gu, 0, none⟩) N2.length f0) := (blk_cell HZ.out.hn 1).trans rfl
 have n2 : w10.cell? ⟨bn, 2, none⟩ = some (.slice (some ⟨gv, 0, none⟩) O2.length f1) := (blk_cell HZ.out.hn 2).trans rfl
 go_wp2_with fail
 refine (same_self (Kd.R_reads' HRC.out).2.2 (Kd.R_reads' HRC.out).2.1 (Kd.R_reads' HRB.out).2.2 (Kd.R_reads' HRB.out).2.1).mono ?_
 rintro e w11 ⟨rfl, hb⟩
 replace HRA := Aside0.mk (Kd.R_below HRA.out hb)
 replace HGT := Aside0.mk (Nat.le_trans HGT.out hb.size)
 replace HRC := Aside0.mk (Kd.R_below HRC.out hb)
 replace HZ := Aside0.mk (HZ.out.step hb)
 clear hb HRB
 clear x0 x1 x2 x3 x4 x5 x6 m0 m1 m2 n0 n1 n2
 have x0 : w11.cell? ⟨w.heap.size, 0, none⟩ = some (.int .i64 s1) := (blk_cell HZ.out.hx 0).trans rfl
 have x1 : w11.cell? ⟨w.heap.size, 1, none⟩ = some (.slice A0 N1.length c0) := (blk_cell HZ.out.hx 1).trans rfl
 have x2 : w11.cell? ⟨w.heap.size, 2, none⟩ = some (.slice A1 O1.length c1) := (blk_cell HZ.out.hx 2).trans rfl
 have x3 : w11.cell? ⟨w.heap.size, 3, none⟩ = some (.int .i64 s2) := (blk_cell HZ.out.hx 3).trans rfl
 have x4 : w11.cell? ⟨w.heap.size, 4, none⟩ = some (.slice A2 N2.length c2) := (blk_cell HZ.out.hx 4).trans rfl
 have x5 : w11.cell? ⟨w.heap.size, 5, none⟩ = some (.slice A3 O2.length c3) := (blk_cell HZ.out.hx 5).trans rfl
 have x6 : w11.cell? ⟨w.heap.size, 6, none⟩ = some (.int .i64 sy) := (blk_cell HZ.out.hx 6).trans rfl
 have m0 : w11.cell? ⟨bm, 0, none⟩ = some (.int .i64 s1) := (blk_cell HZ.out.hm 0).trans rfl
 have m1 : w11.cell? ⟨bm, 1, none⟩ = some (.slice (some ⟨gz, 0, none⟩) N1.length e0) := (blk_cell HZ.out.hm 1).trans rfl
 have m2 : w11.cell? ⟨bm, 2, none⟩ = some (.slice (some ⟨gy, 0, none⟩) O1.length e1) := (blk_cell HZ.out.hm 2).trans rfl
 have n0 : w11.cell? ⟨bn, 0, none⟩ = some (.int .i64 s2) := (blk_cell HZ.out.hn 0).trans rfl
 have n1 : w11.cell? ⟨bn, 1, none⟩ = some (.slice (some ⟨gu, 0, none⟩) N2.length f0) := (blk_cell HZ.out.hn 1).trans rfl
 have n2 : w11.cell? ⟨bn, 2, none⟩ = some (.slice (some ⟨gv, 0, none⟩) O2.length f1) := (blk_cell HZ.out.hn 2).trans rfl
 go_wp2_with fail
 refine (C14.errI_num ra HC.out (HS.out.step HZ.out.below)).mono ?_
 rintro e w12 ⟨rfl, hb⟩
 replace HRA := Aside0.mk (Kd.R_below HRA.out hb)
 replace HGT := Aside0.mk (Nat.le_trans HGT.out hb.size)
 replace HRC := Aside0.mk (Kd.R_below HRC.out hb)
 replace HZ := Aside0.mk (HZ.out.step hb)
 clear hb
 clear x0 x1 x2 x3 x4 x5 x6 m0 m1 m2 n0 n1 n2
 have x0 : w12.cell? ⟨w.heap.size, 0, none⟩ = some (.int .i64 s1) := (blk_cell HZ.out.hx 0).trans rfl
 have x1 : w12.cell? ⟨w.heap.size, 1, none⟩ = some (.slice A0 N1.length c0) := (blk_cell HZ.out.hx 1).trans rfl
 have x2 : w12.cell? ⟨w.heap.size, 2, none⟩ = some (.slice A1 O1.length c1) := (blk_cell HZ.out.hx 2).trans rfl
 have x3 : w12.cell? ⟨w.heap.size, 3, none⟩ = some (.int .i64 s2) := (blk_cell HZ.out.hx 3).trans rfl
 have x4 : w12.cell? ⟨w.heap.size, 4, none⟩ = some (.slice A2 N2.length c2) := (blk_cell HZ.out.hx 4).trans rfl
 have x5 : w12.cell? ⟨w.heap.size, 5, none⟩ = some (.slice A3 O2.length c3) := (blk_cell HZ.out.hx 5).trans rfl
 have x6 : w12.cell? ⟨w.heap.size, 6, none⟩ = some (.int .i64 sy) := (blk_cell HZ.out.hx 6).trans rfl
 have m0 : w12.cell? ⟨bm, 0, none⟩ = some (.int .i64 s1) := (blk_cell HZ.out.hm 0).trans rfl
 have m1 : w12.cell? ⟨bm, 1, none⟩ = some (.slice (some ⟨gz, 0, none⟩) N1.length e0) := (blk_cell HZ.out.hm 1).trans rfl
 have m2 : w12.cell? ⟨bm, 2, none⟩ = some (.slice (some ⟨gy, 0, none⟩) O1.length e1) := (blk_cell HZ.out.hm 2).trans rfl
 have n0 : w12.cell? ⟨bn, 0, none⟩ = some (.int .i64 s2) := (blk_cell HZ.out.hn 0).trans rfl
 have n1 : w12.cell? ⟨bn, 1, none⟩ = some (.slice (some ⟨gu, 0, none⟩) N2.length f0) := (blk_cell HZ.out.hn 1).trans rfl
 have n2 : w12.cell? ⟨bn, 2, none⟩ = some (.slice (some ⟨gv, 0, none⟩) O2.length f1) := (blk_cell HZ.out.hn 2).trans rfl
 go_wp2_with fail
 have HLN := Aside0.mk (apart_len HAP.out ⟨HN.out.1.n, HN.out.2.n⟩)
 have HBC : Aside0 (∀ k, (Value.slice Ac wa.length cc).ownBlock = some k → w5.heap.size ≤ k ∧ k < w12.heap.size) := ⟨fun k hk => ⟨((Kd.R_bound HRC.out).1 k hk).2.1, ((Kd.R_bound HRC.out).1 k hk).2.2.1⟩⟩
 have HBA : Aside0 (∀ k, (Value.slice Aa wa.length ca).ownBlock = some k → k < w5.heap.size ∧ k < w12.heap.size) := ⟨fun k hk => ⟨HLA.out k hk, ((Kd.R_bound HRA.out).1 k hk).2.2.1⟩⟩
 have hst : ST (w12.alloc (.cells #[.slice Aa wa.length ca, .slice Ac wa.length cc] 25)) w12.heap.size [.slice Aa wa.length ca, .slice Ac wa.length cc] := by
  refine ⟨?_, ?_, ?_, ?_, by simp⟩
  ·intro i j vi vj k hij hi hj h1 h2
   rcases i with _ | _ | i <;> rcases j with _ | _ | j <;> simp at hi hj hij
   ·subst hi hj
    have q1 := HBA.out k h1
    have q2 := HBC.out k h2
    omega
   ·subst hi hj
    have q1 := HBC.out k h1
    have q2 := HBA.out k h2
    omega
  ·intro j v hj e
   rcases j with _ | _ | j <;> simp at hj
   ·subst hj
    have := HBA.out _ e
    omega
   ·subst hj
    have := HBC.out _ e
    omega
  ·intro j v k hj e
   rcases j with _ | _ | j <;> simp at hj
   ·subst hj
    have := HBA.out _ e
    simp
    omega
   ·subst hj
    have := HBC.out _ e
    simp
    omega
  ·intro j v hj
   rcases j with _ | _ | j <;> simp at hj
   ·subst hj
    exact R_at0 HRA.out
   ·subst hj
    exact R_at0 HRC.out
 have hsi : SI (w12.alloc (.cells #[.slice Aa wa.length ca, .slice Ac wa.length cc] 25)) ga w12.heap.size [.slice Aa wa.length ca, .slice Ac wa.length cc] [wa, wa] (w12.alloc (.cells #[.slice Aa wa.length ca, .slice Ac wa.length cc] 25)) := by
  refine ⟨Below.refl _ _, rfl, ?_, ?_⟩
  ·intro i v hi
   rcases i with _ | _ | i <;> simp at hi
   ·subst hi
    exact (blk_cell (heap_alloc_new _ _) 0).trans rfl
   ·subst hi
    exact (blk_cell (heap_alloc_new _ _) 1).trans rfl
  ·intro i v x hi hx
   rcases i with _ | _ | i <;> simp at hi hx
   ·subst hi hx
    exact Kd.R_alloc HRA.out _
   ·subst hi hx
    exact Kd.R_alloc (Kd.R_lower HRC.out HGB.out) _
 have hsp := split_calls (cl := 2) hst hsi (by have := HGT.out; simp; omega) (by simp) (by intro x hx; simp at hx; subst hx; have := HLN.out; omega)
 refine hsp.mono ?_
 clear hst hsi hsp
 rintro e w13 ⟨rfl, hb⟩
 replace HZ := Aside0.mk ((HZ.out.step (below_alloc (Below.refl _ w12) (.cells #[.slice Aa wa.length ca, .slice Ac wa.length cc] 25))).low hb HGA.out.1)
 clear hb HRA HRC HBA HBC HLA HLN HGA HGB HGT HAP HC
 clear x0 x1 x2 x3 x4 x5 x6 m0 m1 m2 n0 n1 n2
 have x0 : w13.cell? ⟨w.heap.size, 0, none⟩ = some (.int .i64 s1) := (blk_cell HZ.out.hx 0).trans rfl
 have x1 : w13.cell? ⟨w.heap.size, 1, none⟩ = some (.slice A0 N1.length c0) := (blk_cell HZ.out.hx 1).trans rfl
 have x2 : w13.cell? ⟨w.heap.size, 2, none⟩ = some (.slice A1 O1.length c1) := (blk_cell HZ.out.hx 2).trans rfl
 have x3 : w13.cell? ⟨w.heap.size, 3, none⟩ = some (.int .i64 s2) := (blk_cell HZ.out.hx 3).trans rfl
 have x4 : w13.cell? ⟨w.heap.size, 4, none⟩ = some (.slice A2 N2.length c2) := (blk_cell HZ.out.hx 4).trans rfl
 have x5 : w13.cell? ⟨w.heap.size, 5, none⟩ = some (.slice A3 O2.length c3) := (blk_cell HZ.out.hx 5).trans rfl
 have x6 : w13.cell? ⟨w.heap.size, 6, none⟩ = some (.int .i64 sy) := (blk_cell HZ.out.hx 6).trans rfl
 have m0 : w13.cell? ⟨bm, 0, none⟩ = some (.int .i64 s1) := (blk_cell HZ.out.hm 0).trans rfl
 have m1 : w13.cell? ⟨bm, 1, none⟩ = some (.slice (some ⟨gz, 0, none⟩) N1.length e0) := (blk_cell HZ.out.hm 1).trans rfl
 have m2 : w13.cell? ⟨bm, 2, none⟩ = some (.slice (some ⟨gy, 0, none⟩) O1.length e1) := (blk_cell HZ.out.hm 2).trans rfl
 have n0 : w13.cell? ⟨bn, 0, none⟩ = some (.int .i64 s2) := (blk_cell HZ.out.hn 0).trans rfl
 have n1 : w13.cell? ⟨bn, 1, none⟩ = some (.slice (some ⟨gu, 0, none⟩) N2.length f0) := (blk_cell HZ.out.hn 1).trans rfl
 have n2 : w13.cell? ⟨bn, 2, none⟩ = some (.slice (some ⟨gv, 0, none⟩) O2.length f1) := (blk_cell HZ.out.hn 2).trans rfl
 go_wp2_with fail
 refine (turned_calls' HZ.out.mq HN.out.1.b1 HN.out.1.b2).mono ?_
 rintro e w14 ⟨rfl, hq, hb, hkk⟩
 replace HZ := Aside0.mk (HZ.out.turn1 hq hb hkk)
 clear hq hb hkk
 obtain ⟨M1, hM1⟩ : ∃ L : LL, L = rowsF (fN N1.length) N1 N1.length := ⟨_, rfl⟩
 obtain ⟨P1, hP1⟩ : ∃ L : LL, L = rowsF fO O1 O1.length := ⟨_, rfl⟩
 rw [← hM1, ← hP1] at HZ
 have HL1 : Aside0 (M1.length = N1.length ∧ P1.length = O1.length) := ⟨⟨by rw [hM1, rowsF_len], by rw [hP1, rowsF_len]⟩⟩
 clear hM1 hP1
 clear x0 x1 x2 x3 x4 x5 x6 m0 m1 m2 n0 n1 n2
 have x0 : w14.cell? ⟨w.heap.size, 0, none⟩ = some (.int .i64 s1) := (blk_cell HZ.out.hx 0).trans rfl
 have x1 : w14.cell? ⟨w.heap.size, 1, none⟩ = some (.slice A0 N1.length c0) := (blk_cell HZ.out.hx 1).trans rfl
 have x2 : w14.cell? ⟨w.heap.size, 2, none⟩ = some (.slice A1 O1.length c1) := (blk_cell HZ.out.hx 2).trans rfl
 have x3 : w14.cell? ⟨w.heap.size, 3, none⟩ = some (.int .i64 s2) := (blk_cell HZ.out.hx 3).trans rfl
 have x4 : w14.cell? ⟨w.heap.size, 4, none⟩ = some (.slice A2 N2.length c2) := (blk_cell HZ.out.hx 4).trans rfl
 have x5 : w14.cell? ⟨w.heap.size, 5, none⟩ = some (.slice A3 O2.length c3) := (blk_cell HZ.out.hx 5).trans rfl
 have x6 : w14.cell? ⟨w.heap.size, 6, none⟩ = some (.int .i64 sy) := (blk_cell HZ.out.hx 6).trans rfl
 have m0 : w14.cell? ⟨bm, 0, none⟩ = some (.int .i64 s1) := (blk_cell HZ.out.hm 0).trans rfl
 have m1 : w14.cell? ⟨bm, 1, none⟩ = some (.slice (some ⟨gz, 0, none⟩) N1.length e0) := (blk_cell HZ.out.hm 1).trans rfl
 have m2 : w14.cell? ⟨bm, 2, none⟩ = some (.slice (some ⟨gy, 0, none⟩) O1.length e1) := (blk_cell HZ.out.hm 2).trans rfl
 have n0 : w14.cell? ⟨bn, 0, none⟩ = some (.int .i64 s2) := (blk_cell HZ.out.hn 0).trans rfl
 have n1 : w14.cell? ⟨bn, 1, none⟩ = some (.slice (some ⟨gu, 0, none⟩) N2.length f0) := (blk_cell HZ.out.hn 1).trans rfl
 have n2 : w14.cell? ⟨bn, 2, none⟩ = some (.slice (some ⟨gv, 0, none⟩) O2.length f1) := (blk_cell HZ.out.hn 2).trans rfl
 go_wp2_with fail
 have hc := refApart_calls (s1 := s1) (s2 := s2) (sy := sy) HZ.out.mq.mc HZ.out.nq.mc ⟨by rw [HL1.out.1]; exact HN.out.1.n, HN.out.2.n⟩
 simp only [HL1.out.1, HL1.out.2] at hc
 refine hc.mono ?_
 clear hc
 rintro e w15 ⟨vb, wb, bb, rb, rfl, hr, hb, hap⟩
 obtain ⟨Ab, cb, rfl⟩ := Kd.R_slice hr
 have HRB := Aside0.mk hr
 have HAP := Aside0.mk hap
 have HC := Aside0.mk hap.code
 replace HZ := Aside0.mk (HZ.out.step hb)
 clear hr hb hap
 clear x0 x1 x2 x3 x4 x5 x6 m0 m1 m2 n0 n1 n2
 have x0 : w15.cell? ⟨w.heap.size, 0, none⟩ = some (.int .i64 s1) := (blk_cell HZ.out.hx 0).trans rfl
 have x1 : w15.cell? ⟨w.heap.size, 1, none⟩ = some (.slice A0 N1.length c0) := (blk_cell HZ.out.hx 1).trans rfl
 have x2 : w15.cell? ⟨w.heap.size, 2, none⟩ = some (.slice A1 O1.length c1) := (blk_cell HZ.out.hx 2).trans rfl
 have x3 : w15.cell? ⟨w.heap.size, 3, none⟩ = some (.int .i64 s2) := (blk_cell HZ.out.hx 3).trans rfl
 have x4 : w15.cell? ⟨w.heap.size, 4, none⟩ = some (.slice A2 N2.length c2) := (blk_cell HZ.out.hx 4).trans rfl
 have x5 : w15.cell? ⟨w.heap.size, 5, none⟩ = some (.slice A3 O2.length c3) := (blk_cell HZ.out.hx 5).trans rfl
 have x6 : w15.cell? ⟨w.heap.size, 6, none⟩ = some (.int .i64 sy) := (blk_cell HZ.out.hx 6).trans rfl
 have m0 : w15.cell? ⟨bm, 0, none⟩ = some (.int .i64 s1) := (blk_cell HZ.out.hm 0).trans rfl
 have m1 : w15.cell? ⟨bm, 1, none⟩ = some (.slice (some ⟨gz, 0, none⟩) N1.length e0) := (blk_cell HZ.out.hm 1).trans rfl
 have m2 : w15.cell? ⟨bm, 2, none⟩ = some (.slice (some ⟨gy, 0, none⟩) O1.length e1) := (blk_cell HZ.out.hm 2).trans rfl
 have n0 : w15.cell? ⟨bn, 0, none⟩ = some (.int .i64 s2) := (blk_cell HZ.out.hn 0).trans rfl
 have n1 : w15.cell? ⟨bn, 1, none⟩ = some (.slice (some ⟨gu, 0, none⟩) N2.length f0) := (blk_cell HZ.out.hn 1).trans rfl
 have n2 : w15.cell? ⟨bn, 2, none⟩ = some (.slice (some ⟨gv, 0, none⟩) O2.length f1) := (blk_cell HZ.out.hn 2).trans rfl
 go_wp2_with fail
 have hc := apart_calls (s1 := s1) (s2 := s2) (sy := sy) HZ.out.mq.mc HZ.out.nq.mc (HS.out.step HZ.out.below) ⟨by rw [HL1.out.1]; exact HN.out.1.n, HN.out.2.n⟩
 simp only [HL1.out.1, HL1.out.2] at hc
 refine hc.mono ?_
 clear hc
 rintro e w16 ⟨vd, wd, bd, rd, rfl, hr, hb, hap⟩
 obtain ⟨rfl, rfl, rfl⟩ := HAP.out.uniq hap
 obtain ⟨Ad, cd, rfl⟩ := Kd.R_slice hr
 have HRD := Aside0.mk hr
 replace HRB := Aside0.mk (Kd.R_below HRB.out hb)
 replace HZ := Aside0.mk (HZ.out.step hb)
 clear hr hb hap
 clear x0 x1 x2 x3 x4 x5 x6 m0 m1 m2 n0 n1 n2
 have x0 : w16.cell? ⟨w.heap.size, 0, none⟩ = some (.int .i64 s1) := (blk_cell HZ.out.hx 0).trans rfl
 have x1 : w16.cell? ⟨w.heap.size, 1, none⟩ = some (.slice A0 N1.length c0) := (blk_cell HZ.out.hx 1).trans rfl
 have x2 : w16.cell? ⟨w.heap.size, 2, none⟩ = some (.slice A1 O1.length c1) := (blk_cell HZ.out.hx 2).trans rfl
 have x3 : w16.cell? ⟨w.heap.size, 3, none⟩ = some (.int .i64 s2) := (blk_cell HZ.out.hx 3).trans rfl
 have x4 : w16.cell? ⟨w.heap.size, 4, none⟩ = some (.slice A2 N2.length c2) := (blk_cell HZ.out.hx 4).trans rfl
 have x5 : w16.cell? ⟨w.heap.size, 5, none⟩ = some (.slice A3 O2.length c3) := (blk_cell HZ.out.hx 5).trans rfl
 have x6 : w16.cell? ⟨w.heap.size, 6, none⟩ = some (.int .i64 sy) := (blk_cell HZ.out.hx 6).trans rfl
 have m0 : w16.cell? ⟨bm, 0, none⟩ = some (.int .i64 s1) := (blk_cell HZ.out.hm 0).trans rfl
 have m1 : w16.cell? ⟨bm, 1, none⟩ = some (.slice (some ⟨gz, 0, none⟩) N1.length e0) := (blk_cell HZ.out.hm 1).trans rfl
 have m2 : w16.cell? ⟨bm, 2, none⟩ = some (.slice (some ⟨gy, 0, none⟩) O1.length e1) := (blk_cell HZ.out.hm 2).trans rfl
 have n0 : w16.cell? ⟨bn, 0, none⟩ = some (.int .i64 s2) := (blk_cell HZ.out.hn 0).trans rfl
 have n1 : w16.cell? ⟨bn, 1, none⟩ = some (.slice (some ⟨gu, 0, none⟩) N2.length f0) := (blk_cell HZ.out.hn 1).trans rfl
 have n2 : w16.cell? ⟨bn, 2, none⟩ = some (.slice (some ⟨gv, 0, none⟩) O2.length f1) := (blk_cell HZ.out.hn 2).trans rfl
 go_wp2_with fail
 refine (same_self (Kd.R_reads' HRD.out).2.2 (Kd.R_reads' HRD.out).2.1 (Kd.R_reads' HRB.out).2.2 (Kd.R_reads' HRB.out).2.1).mono ?_
 rintro e w17 ⟨rfl, hb⟩
 replace HZ := Aside0.mk (HZ.out.step hb)
 clear hb HRB HRD
 clear x0 x1 x2 x3 x4 x5 x6 m0 m1 m2 n0 n1 n2
 have x0 : w17.cell? ⟨w.heap.size, 0, none⟩ = some (.int .i64 s1) := (blk_cell HZ.out.hx 0).trans rfl
 have x1 : w17.cell? ⟨w.heap.size, 1, none⟩ = some (.slice A0 N1.length c0) := (blk_cell HZ.out.hx 1).trans rfl
 have x2 : w17.cell? ⟨w.heap.size, 2, none⟩ = some (.slice A1 O1.length c1) := (blk_cell HZ.out.hx 2).trans rfl
 have x3 : w17.cell? ⟨w.heap.size, 3, none⟩ = some (.int .i64 s2) := (blk_cell HZ.out.hx 3).trans rfl
 have x4 : w17.cell? ⟨w.heap.size, 4, none⟩ = some (.slice A2 N2.length c2) := (blk_cell HZ.out.hx 4).trans rfl
 have x5 : w17.cell? ⟨w.heap.size, 5, none⟩ = some (.slice A3 O2.length c3) := (blk_cell HZ.out.hx 5).trans rfl
 have x6 : w17.cell? ⟨w.heap.size, 6, none⟩ = some (.int .i64 sy) := (blk_cell HZ.out.hx 6).trans rfl
 have m0 : w17.cell? ⟨bm, 0, none⟩ = some (.int .i64 s1) := (blk_cell HZ.out.hm 0).trans rfl
 have m1 : w17.cell? ⟨bm, 1, none⟩ = some (.slice (some ⟨gz, 0, none⟩) N1.length e0) := (blk_cell HZ.out.hm 1).trans rfl
 have m2 : w17.cell? ⟨bm, 2, none⟩ = some (.slice (some ⟨gy, 0, none⟩) O1.length e1) := (blk_cell HZ.out.hm 2).trans rfl
 have n0 : w17.cell? ⟨bn, 0, none⟩ = some (.int .i64 s2) := (blk_cell HZ.out.hn 0).trans rfl
 have n1 : w17.cell? ⟨bn, 1, none⟩ = some (.slice (some ⟨gu, 0, none⟩) N2.length f0) := (blk_cell HZ.out.hn 1).trans rfl
 have n2 : w17.cell? ⟨bn, 2, none⟩ = some (.slice (some ⟨gv, 0, none⟩) O2.length f1) := (blk_cell HZ.out.hn 2).trans rfl
 go_wp2_with fail
 refine (C14.errI_num rb HC.out (HS.out.step HZ.out.below)).mono ?_
 rintro e w18 ⟨rfl, hb⟩
 replace HZ := Aside0.mk (HZ.out.step hb)
 clear hb HAP HC
 clear x0 x1 x2 x3 x4 x5 x6 m0 m1 m2 n0 n1 n2
 have x0 : w18.cell? ⟨w.heap.size, 0, none⟩ = some (.int .i64 s1) := (blk_cell HZ.out.hx 0).trans rfl
 have x1 : w18.cell? ⟨w.heap.size, 1, none⟩ = some (.slice A0 N1.length c0) := (blk_cell HZ.out.hx 1).trans rfl
 have x2 : w18.cell? ⟨w.heap.size, 2, none⟩ = some (.slice A1 O1.length c1) := (blk_cell HZ.out.hx 2).trans rfl
 have x3 : w18.cell? ⟨w.heap.size, 3, none⟩ = some (.int .i64 s2) := (blk_cell HZ.out.hx 3).trans rfl
 have x4 : w18.cell? ⟨w.heap.size, 4, none⟩ = some (.slice A2 N2.length c2) := (blk_cell HZ.out.hx 4).trans rfl
 have x5 : w18.cell? ⟨w.heap.size, 5, none⟩ = some (.slice A3 O2.length c3) := (blk_cell HZ.out.hx 5).trans rfl
 have x6 : w18.cell? ⟨w.heap.size, 6, none⟩ = some (.int .i64 sy) := (blk_cell HZ.out.hx 6).trans rfl
 have m0 : w18.cell? ⟨bm, 0, none⟩ = some (.int .i64 s1) := (blk_cell HZ.out.hm 0).trans rfl
 have m1 : w18.cell? ⟨bm, 1, none⟩ = some (.slice (some ⟨gz, 0, none⟩) N1.length e0) := (blk_cell HZ.out.hm 1).trans rfl
 have m2 : w18.cell? ⟨bm, 2, none⟩ = some (.slice (some ⟨gy, 0, none⟩) O1.length e1) := (blk_cell HZ.out.hm 2).trans rfl
 have n0 : w18.cell? ⟨bn, 0, none⟩ = some (.int .i64 s2) := (blk_cell HZ.out.hn 0).trans rfl
 have n1 : w18.cell? ⟨bn, 1, none⟩ = some (.slice (some ⟨gu, 0, none⟩) N2.length f0) := (blk_cell HZ.out.hn 1).trans rfl
 have n2 : w18.cell? ⟨bn, 2, none⟩ = some (.slice (some ⟨gv, 0, none⟩) O2.length f1) := (blk_cell HZ.out.hn 2).trans rfl
 go_wp2_with fail
 refine (turned_calls' HZ.out.nq HN.out.2.b1 HN.out.2.b2).mono ?_
 rintro e w19 ⟨rfl, hq, hb, hkk⟩
 replace HZ := Aside0.mk (HZ.out.turn2 hq hb hkk)
 clear hq hb hkk
 obtain ⟨M2, hM2⟩ : ∃ L : LL, L = rowsF (fN N2.length) N2 N2.length := ⟨_, rfl⟩
 obtain ⟨P2, hP2⟩ : ∃ L : LL, L = rowsF fO O2 O2.length := ⟨_, rfl⟩
 rw [← hM2, ← hP2] at HZ
 have HL2 : Aside0 (M2.length = N2.length ∧ P2.length = O2.length) := ⟨⟨by rw [hM2, rowsF_len], by rw [hP2, rowsF_len]⟩⟩
 clear hM2 hP2
 clear x0 x1 x2 x3 x4 x5 x6 m0 m1 m2 n0 n1 n2
 have x0 : w19.cell? ⟨w.heap.size, 0, none⟩ = some (.int .i64 s1) := (blk_cell HZ.out.hx 0).trans rfl
 have x1 : w19.cell? ⟨w.heap.size, 1, none⟩ = some (.slice A0 N1.length c0) := (blk_cell HZ.out.hx 1).trans rfl
 have x2 : w19.cell? ⟨w.heap.size, 2, none⟩ = some (.slice A1 O1.length c1) := (blk_cell HZ.out.hx 2).trans rfl
 have x3 : w19.cell? ⟨w.heap.size, 3, none⟩ = some (.int .i64 s2) := (blk_cell HZ.out.hx 3).trans rfl
 have x4 : w19.cell? ⟨w.heap.size, 4, none⟩ = some (.slice A2 N2.length c2) := (blk_cell HZ.out.hx 4).trans rfl
 have x5 : w19.cell? ⟨w.heap.size, 5, none⟩ = some (.slice A3 O2.length c3) := (blk_cell HZ.out.hx 5).trans rfl
 have x6 : w19.cell? ⟨w.heap.size, 6, none⟩ = some (.int .i64 sy) := (blk_cell HZ.out.hx 6).trans rfl
 have m0 : w19.cell? ⟨bm, 0, none⟩ = some (.int .i64 s1) := (blk_cell HZ.out.hm 0).trans rfl
 have m1 : w19.cell? ⟨bm, 1, none⟩ = some (.slice (some ⟨gz, 0, none⟩) N1.length e0) := (blk_cell HZ.out.hm 1).trans rfl
 have m2 : w19.cell? ⟨bm, 2, none⟩ = some (.slice (some ⟨gy, 0, none⟩) O1.length e1) := (blk_cell HZ.out.hm 2).trans rfl
 have n0 : w19.cell? ⟨bn, 0, none⟩ = some (.int .i64 s2) := (blk_cell HZ.out.hn 0).trans rfl
 have n1 : w19.cell? ⟨bn, 1, none⟩ = some (.slice (some ⟨gu, 0, none⟩) N2.length f0) := (blk_cell HZ.out.hn 1).trans rfl
 have n2 : w19.cell? ⟨bn, 2, none⟩ = some (.slice (some ⟨gv, 0, none⟩) O2.length f1) := (blk_cell HZ.out.hn 2).trans rfl
 go_wp2_with fail
 have hc := refApart_calls (s1 := s1) (s2 := s2) (sy := sy) HZ.out.mq.mc HZ.out.nq.mc ⟨by rw [HL1.out.1]; exact HN.out.1.n, by rw [HL2.out.1]; exact HN.out.2.n⟩
 simp only [HL1.out.1, HL1.out.2, HL2.out.1, HL2.out.2] at hc
 refine hc.mono ?_
 clear hc
 rintro e w20 ⟨vb, wb, bb, rb, rfl, hr, hb, hap⟩
 obtain ⟨Ab, cb, rfl⟩ := Kd.R_slice hr
 have HRB := Aside0.mk hr
 have HAP := Aside0.mk hap
 have HC := Aside0.mk hap.code
 replace HZ := Aside0.mk (HZ.out.step hb)
 clear hr hb hap
 clear x0 x1 x2 x3 x4 x5 x6 m0 m1 m2 n0 n1 n2
 have x0 : w20.cell? ⟨w.heap.size, 0, none⟩ = some (.int .i64 s1) := (blk_cell HZ.out.hx 0).trans rfl
 have x1 : w20.cell? ⟨w.heap.size, 1, none⟩ = some (.slice A0 N1.length c0) := (blk_cell HZ.out.hx 1).trans rfl
 have x2 : w20.cell? ⟨w.heap.size, 2, none⟩ = some (.slice A1 O1.length c1) := (blk_cell HZ.out.hx 2).trans rfl
 have x3 : w20.cell? ⟨w.heap.size, 3, none⟩ = some (.int .i64 s2) := (blk_cell HZ.out.hx 3).trans rfl
 have x4 : w20.cell? ⟨w.heap.size, 4, none⟩ = some (.slice A2 N2.length c2) := (blk_cell HZ.out.hx 4).trans rfl
 have x5 : w20.cell? ⟨w.heap.size, 5, none⟩ = some (.slice A3 O2.length c3) := (blk_cell HZ.out.hx 5).trans rfl
 have x6 : w20.cell? ⟨w.heap.size, 6, none⟩ = some (.int .i64 sy) := (blk_cell HZ.out.hx 6).trans rfl
 have m0 : w20.cell? ⟨bm, 0, none⟩ = some (.int .i64 s1) := (blk_cell HZ.out.hm 0).trans rfl
 have m1 : w20.cell? ⟨bm, 1, none⟩ = some (.slice (some ⟨gz, 0, none⟩) N1.length e0) := (blk_cell HZ.out.hm 1).trans rfl
 have m2 : w20.cell? ⟨bm, 2, none⟩ = some (.slice (some ⟨gy, 0, none⟩) O1.length e1) := (blk_cell HZ.out.hm 2).trans rfl
 have n0 : w20.cell? ⟨bn, 0, none⟩ = some (.int .i64 s2) := (blk_cell HZ.out.hn 0).trans rfl
 have n1 : w20.cell? ⟨bn, 1, none⟩ = some (.slice (some ⟨gu, 0, none⟩) N2.length f0) := (blk_cell HZ.out.hn 1).trans rfl
 have n2 : w20.cell? ⟨bn, 2, none⟩ = some (.slice (some ⟨gv, 0, none⟩) O2.length f1) := (blk_cell HZ.out.hn 2).trans rfl
 go_wp2_with fail
 have hc := apart_calls (s1 := s1) (s2 := s2) (sy := sy) HZ.out.mq.mc HZ.out.nq.mc (HS.out.step HZ.out.below) ⟨by rw [HL1.out.1]; exact HN.out.1.n, by rw [HL2.out.1]; exact HN.out.2.n⟩
 simp only [HL1.out.1, HL1.out.2, HL2.out.1, HL2.out.2] at hc
 refine hc.mono ?_
 clear hc
 rintro e w21 ⟨vd, wd, bd, rd, rfl, hr, hb, hap⟩
 obtain ⟨rfl, rfl, rfl⟩ := HAP.out.uniq hap
 obtain ⟨Ad, cd, rfl⟩ := Kd.R_slice hr
 have HRD := Aside0.mk hr
 replace HRB := Aside0.mk (Kd.R_below HRB.out hb)
 replace HZ := Aside0.mk (HZ.out.step hb)
 clear hr hb hap
 clear x0 x1 x2 x3 x4 x5 x6 m0 m1 m2 n0 n1 n2
 have x0 : w21.cell? ⟨w.heap.size, 0, none⟩ = some (.int .i64 s1) := (blk_cell HZ.out.hx 0).trans rfl
 have x1 : w21.cell? ⟨w.heap.size, 1, none⟩ = some (.slice A0 N1.length c0) := (blk_cell HZ.out.hx 1).trans rfl
 have x2 : w21.cell? ⟨w.heap.size, 2, none⟩ = some (.slice A1 O1.length c1) := (blk_cell HZ.out.hx 2).trans rfl
 have x3 : w21.cell? ⟨w.heap.size, 3, none⟩ = some (.int .i64 s2) := (blk_cell HZ.out.hx 3).trans rfl
 have x4 : w21.cell? ⟨w.heap.size, 4, none⟩ = some (.slice A2 N2.length c2) := (blk_cell HZ.out.hx 4).trans rfl
 have x5 : w21.cell? ⟨w.heap.size, 5, none⟩ = some (.slice A3 O2.length c3) := (blk_cell HZ.out.hx 5).trans rfl
 have x6 : w21.cell? ⟨w.heap.size, 6, none⟩ = some (.int .i64 sy) := (blk_cell HZ.out.hx 6).trans rfl
 have m0 : w21.cell? ⟨bm, 0, none⟩ = some (.int .i64 s1) := (blk_cell HZ.out.hm 0).trans rfl
 have m1 : w21.cell? ⟨bm, 1, none⟩ = some (.slice (some ⟨gz, 0, none⟩) N1.length e0) := (blk_cell HZ.out.hm 1).trans rfl
 have m2 : w21.cell? ⟨bm, 2, none⟩ = some (.slice (some ⟨gy, 0, none⟩) O1.length e1) := (blk_cell HZ.out.hm 2).trans rfl
 have n0 : w21.cell? ⟨bn, 0, none⟩ = some (.int .i64 s2) := (blk_cell HZ.out.hn 0).trans rfl
 have n1 : w21.cell? ⟨bn, 1, none⟩ = some (.slice (some ⟨gu, 0, none⟩) N2.length f0) := (blk_cell HZ.out.hn 1).trans rfl
 have n2 : w21.cell? ⟨bn, 2, none⟩ = some (.slice (some ⟨gv, 0, none⟩) O2.length f1) := (blk_cell HZ.out.hn 2).trans rfl
 go_wp2_with fail
 refine (same_self (Kd.R_reads' HRD.out).2.2 (Kd.R_reads' HRD.out).2.1 (Kd.R_reads' HRB.out).2.2 (Kd.R_reads' HRB.out).2.1).mono ?_
 rintro e w22 ⟨rfl, hb⟩
 replace HZ := Aside0.mk (HZ.out.step hb)
 clear hb HRB HRD
 clear x0 x1 x2 x3 x4 x5 x6 m0 m1 m2 n0 n1 n2
 have x0 : w22.cell? ⟨w.heap.size, 0, none⟩ = some (.int .i64 s1) := (blk_cell HZ.out.hx 0).trans rfl
 have x1 : w22.cell? ⟨w.heap.size, 1, none⟩ = some (.slice A0 N1.length c0) := (blk_cell HZ.out.hx 1).trans rfl
 have x2 : w22.cell? ⟨w.heap.size, 2, none⟩ = some (.slice A1 O1.length c1) := (blk_cell HZ.out.hx 2).trans rfl
 have x3 : w22.cell? ⟨w.heap.size, 3, none⟩ = some (.int .i64 s2) := (blk_cell HZ.out.hx 3).trans rfl
 have x4 : w22.cell? ⟨w.heap.size, 4, none⟩ = some (.slice A2 N2.length c2) := (blk_cell HZ.out.hx 4).trans rfl
 have x5 : w22.cell? ⟨w.heap.size, 5, none⟩ = some (.slice A3 O2.length c3) := (blk_cell HZ.out.hx 5).trans rfl
 have x6 : w22.cell? ⟨w.heap.size, 6, none⟩ = some (.int .i64 sy) := (blk_cell HZ.out.hx 6).trans rfl
 have m0 : w22.cell? ⟨bm, 0, none⟩ = some (.int .i64 s1) := (blk_cell HZ.out.hm 0).trans rfl
 have m1 : w22.cell? ⟨bm, 1, none⟩ = some (.slice (some ⟨gz, 0, none⟩) N1.length e0) := (blk_cell HZ.out.hm 1).trans rfl
 have m2 : w22.cell? ⟨bm, 2, none⟩ = some (.slice (some ⟨gy, 0, none⟩) O1.length e1) := (blk_cell HZ.out.hm 2).trans rfl
 have n0 : w22.cell? ⟨bn, 0, none⟩ = some (.int .i64 s2) := (blk_cell HZ.out.hn 0).trans rfl
 have n1 : w22.cell? ⟨bn, 1, none⟩ = some (.slice (some ⟨gu, 0, none⟩) N2.length f0) := (blk_cell HZ.out.hn 1).trans rfl
 have n2 : w22.cell? ⟨bn, 2, none⟩ = some (.slice (some ⟨gv, 0, none⟩) O2.length f1) := (blk_cell HZ.out.hn 2).trans rfl
 go_wp2_with fail
 refine (C14.errI_num rb HC.out (HS.out.step HZ.out.below)).mono ?_
 rintro e w23 ⟨rfl, hb⟩
 replace HZ := Aside0.mk (HZ.out.step hb)
 clear hb HAP HC
 clear x0 x1 x2 x3 x4 x5 x6 m0 m1 m2 n0 n1 n2
 have x0 : w23.cell? ⟨w.heap.size, 0, none⟩ = some (.int .i64 s1) := (blk_cell HZ.out.hx 0).trans rfl
 have x1 : w23.cell? ⟨w.heap.size, 1, none⟩ = some (.slice A0 N1.length c0) := (blk_cell HZ.out.hx 1).trans rfl
 have x2 : w23.cell? ⟨w.heap.size, 2, none⟩ = some (.slice A1 O1.length c1) := (blk_cell HZ.out.hx 2).trans rfl
 have x3 : w23.cell? ⟨w.heap.size, 3, none⟩ = some (.int .i64 s2) := (blk_cell HZ.out.hx 3).trans rfl
 have x4 : w23.cell? ⟨w.heap.size, 4, none⟩ = some (.slice A2 N2.length c2) := (blk_cell HZ.out.hx 4).trans rfl
 have x5 : w23.cell? ⟨w.heap.size, 5, none⟩ = some (.slice A3 O2.length c3) := (blk_cell HZ.out.hx 5).trans rfl
 have x6 : w23.cell? ⟨w.heap.size, 6, none⟩ = some (.int .i64 sy) := (blk_cell HZ.out.hx 6).trans rfl
 have m0 : w23.cell? ⟨bm, 0, none⟩ = some (.int .i64 s1) := (blk_cell HZ.out.hm 0).trans rfl
 have m1 : w23.cell? ⟨bm, 1, none⟩ = some (.slice (some ⟨gz, 0, none⟩) N1.length e0) := (blk_cell HZ.out.hm 1).trans rfl
 have m2 : w23.cell? ⟨bm, 2, none⟩ = some (.slice (some ⟨gy, 0, none⟩) O1.length e1) := (blk_cell HZ.out.hm 2).trans rfl
 have n0 : w23.cell? ⟨bn, 0, none⟩ = some (.int .i64 s2) := (blk_cell HZ.out.hn 0).trans rfl
 have n1 : w23.cell? ⟨bn, 1, none⟩ = some (.slice (some ⟨gu, 0, none⟩) N2.length f0) := (blk_cell HZ.out.hn 1).trans rfl
 have n2 : w23.cell? ⟨bn, 2, none⟩ = some (.slice (some ⟨gv, 0, none⟩) O2.length f1) := (blk_cell HZ.out.hn 2).trans rfl
 go_wp2_with fail
 go_ret
 exact ⟨rfl, HZ.out.below⟩
end Go.Proofs.YtfonajakaimnoaaDoor.C13

namespace Go.Proofs.YtfonajakaimnoaaDoor.Opn
open Go.RowKit Go.Deep Go.Proofs.YtfonajakaimnoaaDoorW.PrintWords
def O {α : Type} (P : Program) (t : TypeId) (d : Kd α) (m : α → Nat) (S Q : α → Prop) (fuel : Nat) : Prop :=
 P.cellsOf t = d.sz ∧ ∀ {H : Type} (enc : TypeId × Value → H) (w : World) (cs : List Value) (x : DataW H × List MemPlace),
  DataW.trod enc P w 0 (fun _ => true) true fuel t cs = some x → ∃ a, d.K w a cs ∧ m a ≤ Rows.uptoBulk x.1 ∧ ((∀ n ∈ x.1.weights P t, n ≤ reachBytes) → S a) ∧ Q a
def OF {α : Type} (P : Program) (fs : List Field) (off : Nat) (d : Kd α) (m : α → Nat) (S Q : α → Prop) (fuel : Nat) : Prop :=
 ∀ {H : Type} (enc : TypeId × Value → H) (w : World) (cs : List Value) (ys : List (DataW H × List MemPlace)), ys.length = fs.length →
  (∀ (i : Nat) (f : Field), fs[i]? = some f → DataW.trod enc P w 0 (fun _ => true) true fuel f.type ((cs.drop f.offset).take (P.cellsOf f.type)) = ys[i]?) →
  ∃ a, d.K w a ((cs.drop off).take d.sz) ∧ m a ≤ Rows.uptoBulkAll (ys.map (·.1)) ∧ ((∀ n ∈ DataW.weightsEach P (fs.map (·.type)) (ys.map (·.1)), n ≤ reachBytes) → S a) ∧ Q a
variable {P : Program}
theorem O.int {t : TypeId} {k : IntKind} (ht : P.underlying t = some (.int k)) (hc : P.cellsOf t = 1) (fuel : Nat) :
  O P t (Kd.int k) (fun _ => 1) (fun _ => True) (fun n => (Lit.int k n).wf = true) fuel :=
 ⟨hc, fun enc w cs x h => by
  obtain ⟨n, rfl, rfl, hw⟩ := DataW.trod_int ht h
  exact ⟨n, rfl, by simp [Rows.uptoBulk], fun _ => trivial, hw⟩⟩
def ml {α : Type} (m : α → Nat) : List α → Nat
 | [] => 0
 | x :: r => m x + ml m r
theorem ml_append {α : Type} (m : α → Nat) (l r : List α) : ml m (l ++ r) = ml m l + ml m r := by
 induction l with
 | nil => simp [ml]
 | cons x l ih => simp only [List.cons_append, ml, ih]; omega
theorem ml_ge {α : Type} {m : α → Nat} (h : ∀ x, 1 ≤ m x) (l : List α) : l.length ≤ ml m l := by
 induction l with
 | nil => simp [ml]
 | cons x l ih => have := h x; simp only [List.length_cons, ml]; omega
theorem ml_mem {α : Type} {m : α → Nat} {x : α} {l : List α} (h : x ∈ l) : m x ≤ ml m l := by
 induction l with
 | nil => cases h
 | cons y l ih =>
  rcases List.mem_cons.1 h with rfl | h
  ·simp only [ml]; omega
  ·have := ih h; simp only [ml]; omega
theorem bulkAll_append {H : Type} (l r : List (DataW H)) : Rows.uptoBulkAll (l ++ r) = Rows.uptoBulkAll l + Rows.uptoBulkAll r := by
 induction l with
 | nil => simp [Rows.uptoBulkAll]
 | cons x l ih => simp only [List.cons_append, Rows.uptoBulkAll, ih]; omega
theorem weightsAll_mem {H : Type} {e : TypeId} {l : List (DataW H)} {x : DataW H} (hx : x ∈ l) {n : Nat} (hn : n ∈ x.weights P e) : n ∈ DataW.weightsAll P e l := by
 induction l with
 | nil => cases hx
 | cons y l ih =>
  simp only [DataW.weightsAll, List.mem_append]
  rcases List.mem_cons.1 hx with rfl | hx
  ·exact .inl hn
  ·exact .inr (ih hx)
theorem elems_of {α H : Type} {p : Nat → α → Prop} {m : α → Nat} {D : Nat → DataW H} : ∀ n, (∀ i, i < n → ∃ a, p i a ∧ m a ≤ Rows.uptoBulk (D i)) →
  ∃ us : List α, us.length = n ∧ (∀ i a, us[i]? = some a → p i a) ∧ ml m us ≤ Rows.uptoBulkAll ((List.range n).map D) := by
 intro n
 induction n with
 | zero => exact fun _ => ⟨[], rfl, fun i a h => by simp at h, by simp [ml]⟩
 | succ n ih =>
  intro h
  obtain ⟨us, h1, h2, h3⟩ := ih (fun i hi => h i (by omega))
  obtain ⟨a, ha, hm⟩ := h n (by omega)
  refine ⟨us ++ [a], by simp [h1], fun i b hb => ?_, ?_⟩
  ·rcases Nat.lt_or_ge i n with hi | hi
   ·rw [List.getElem?_append_left (by omega)] at hb
    exact h2 i b hb
   ·have hl := (List.getElem?_eq_some_iff.1 hb).1
    simp at hl
    have : i = n := by omega
    subst this
    rw [List.getElem?_append_right (by omega)] at hb
    simp [h1] at hb
    subst hb
    exact ha
  ·rw [List.range_succ, List.map_append, bulkAll_append, ml_append]
   simp only [List.map_cons, List.map_nil, Rows.uptoBulkAll, ml]
   omega
theorem add_add (a : Addr) (x y : Nat) : (a.add x).add y = a.add (x + y) := by
 unfold Addr.add
 by_cases hx : x = 0
 ·simp [hx]
 ·by_cases hy : y = 0
  ·simp [hy]
  ·simp [hx, hy, Nat.add_assoc]
theorem O.slice {α : Type} {t e e' : TypeId} {d : Kd α} {m : α → Nat} {S Q : α → Prop} (ht : P.underlying t = some (.slice e)) (hc : P.cellsOf t = 1) {fuel : Nat} (he : ∀ n, n + 1 = fuel → O P e d m S Q n) :
  O P t (Kd.slice e' d) (fun l => ml m l + 1) (fun l => l.length * P.bytesOf e ≤ reachBytes ∧ ∀ x ∈ l, S x) (fun l => l.length ≤ maxLen ∧ ∀ x ∈ l, Q x) fuel :=
 ⟨hc, fun {H} enc w cs x h => by
  rcases DataW.trod_slice ht h with ⟨rfl, rfl⟩ | ⟨a, len, cap, elems, rest, n, rfl, rfl, rfl, hb, hl, hm, hlen, hel, _, _⟩
  ·exact ⟨[], ⟨none, 0, rfl, Nat.le_refl _, rfl, by simp, fun hn => absurd hn (by simp)⟩, by simp [ml, Rows.uptoBulk], fun _ => ⟨by simp, by simp⟩, by simp [maxLen], by simp⟩
  ·obtain ⟨hsz, ho⟩ := he n rfl
   obtain ⟨us, h1, h2, h3⟩ := elems_of (p := fun i v => (∃ c, c.length = d.sz ∧ d.K w v c ∧ ∀ j u, c[j]? = some u → w.cell? (a.add (i * d.sz + j)) = some u) ∧ ((∀ k ∈ (elems.getD i (.nil, [])).1.weights P e, k ≤ reachBytes) → S v) ∧ Q v)
    (m := m) (D := fun i => (elems.getD i (.nil, [])).1) len (fun i hi => by
     have hi' : i < elems.length := by omega
     have hq := hel i hi
     rw [List.getElem?_eq_getElem hi'] at hq
     obtain ⟨c, hc1, hc2⟩ := Option.bind_eq_some_iff.1 hq
     obtain ⟨_, hcl, hcc⟩ := World.cells?_some hc1
     obtain ⟨v, hK, hv, hS, hQ⟩ := ho enc w c _ hc2
     have eg : elems.getD i (.nil, []) = elems[i] := by simp [List.getD, List.getElem?_eq_getElem hi']
     refine ⟨v, ⟨⟨c, by omega, hK, fun j u hj => ?_⟩, by rw [eg]; exact hS, hQ⟩, by rw [eg]; exact hv⟩
     have hjl := (List.getElem?_eq_some_iff.1 hj).1
     rw [← hj, ← hcc j (by omega), add_add, hsz])
   have emap : (List.range len).map (fun i => (elems.getD i (.nil, [])).1) = elems.map (·.1) := by
    apply List.ext_getElem?
    intro i
    rcases Nat.lt_or_ge i len with hi | hi
    ·simp [hi, List.getD, List.getElem?_eq_getElem (show i < elems.length by omega)]
    ·simp [List.getElem?_eq_none (show elems.length ≤ i by omega), List.getElem?_eq_none (show (List.range len).length ≤ i by simpa using hi)]
   rw [emap] at h3
   refine ⟨us, ⟨some a, cap, by simp only [h1], by omega, h1 ▸ rfl, ?_, fun _ => ⟨a, rfl, fun j p hj => (h2 j p hj).1⟩⟩, ?_, fun hw => ⟨?_, fun v hv => ?_⟩, ?_, fun v hv => ?_⟩
   ·simp only [maxLen] at hm; omega
   ·simp only [Rows.uptoBulk]; omega
   ·have := hw ((elems.length + rest.length) * P.bytesOf e) (by simp [DataW.weights, ht])
    exact Nat.le_trans (Nat.mul_le_mul_right _ (by omega)) this
   ·obtain ⟨i, hi⟩ := List.getElem?_of_mem hv
    have hil := (List.getElem?_eq_some_iff.1 hi).1
    have hi' : i < elems.length := by omega
    refine (h2 i v hi).2.1 (fun k hk => hw k ?_)
    have eg : elems.getD i (.nil, []) = elems[i] := by simp [List.getD, List.getElem?_eq_getElem hi']
    rw [eg] at hk
    simp only [DataW.weights, ht, List.mem_cons, List.mem_append]
    exact .inr (.inl (weightsAll_mem (List.mem_map.2 ⟨_, List.getElem_mem hi', rfl⟩) hk))
   ·omega
   ·obtain ⟨i, hi⟩ := List.getElem?_of_mem hv
    exact (h2 i v hi).2.2⟩
theorem OF.one {α : Type} {f : Field} {off : Nat} {d : Kd α} {m : α → Nat} {S Q : α → Prop} {fuel : Nat} (h : O P f.type d m S Q fuel) (ho : f.offset = off) : OF P [f] off d m S Q fuel := by
 intro H enc w cs ys hl hf
 match ys, hl with
 | [y], _ =>
  have := hf 0 f rfl
  simp only [List.getElem?_cons_zero] at this
  obtain ⟨a, hK, hm, hS, hQ⟩ := h.2 enc w _ _ this
  rw [h.1, ho] at hK
  exact ⟨a, hK, by simpa [Rows.uptoBulkAll] using hm, fun hw => hS (fun n hn => hw n (by simp [DataW.weightsEach, hn])), hQ⟩
theorem OF.cons {α β : Type} {f : Field} {fs : List Field} {off : Nat} {d : Kd α} {m : α → Nat} {S Q : α → Prop} {d' : Kd β} {m' : β → Nat} {S' Q' : β → Prop} {fuel : Nat}
  (h : O P f.type d m S Q fuel) (ho : f.offset = off) (hr : OF P fs (off + d.sz) d' m' S' Q' fuel) :
  OF P (f :: fs) off (Kd.pair d d') (fun x => m x.1 + m' x.2) (fun x => S x.1 ∧ S' x.2) (fun x => Q x.1 ∧ Q' x.2) fuel := by
 intro H enc w cs ys hl hf
 match ys, hl with
 | y :: ys, hl =>
  have h0 := hf 0 f rfl
  simp only [List.getElem?_cons_zero] at h0
  obtain ⟨a, hK, hm, hS, hQ⟩ := h.2 enc w _ _ h0
  obtain ⟨b, hK', hm', hS', hQ'⟩ := hr enc w cs ys (by simpa using hl) (fun i g hg => by have := hf (i + 1) g (by simpa using hg); simpa using this)
  rw [h.1, ho] at hK
  refine ⟨(a, b), ⟨_, _, ?_, hK, hK'⟩, by simp only [List.map_cons, Rows.uptoBulkAll]; omega, fun hw => ⟨hS (fun n hn => hw n (by simp [DataW.weightsEach, hn])), hS' (fun n hn => hw n ?_)⟩, hQ, hQ'⟩
  ·show List.take (d.sz + d'.sz) _ = _
   rw [List.take_add, List.drop_drop]
  ·simp only [List.map_cons, DataW.weightsEach, List.mem_append]
   exact .inr hn
theorem O.struct {α β : Type} {t : TypeId} {fs : Array Field} {d : Kd α} {m : α → Nat} {S Q : α → Prop} {f : β → α} (g : α → β) (hg : ∀ a, f (g a) = a) (ht : P.underlying t = some (.struct fs)) (hc : P.cellsOf t = d.sz) {fuel : Nat}
  (h : ∀ n, n + 1 = fuel → OF P fs.toList 0 d m S Q n) : O P t (Kd.iso d f) (fun x => m (f x) + 1) (fun x => S (f x)) (fun x => Q (f x)) fuel :=
 ⟨hc, fun enc w cs x hx => by
  obtain ⟨xs, n, hn, rfl, hl, hlen, hf⟩ := DataW.trod_struct ht hx
  obtain ⟨a, hK, hm, hS, hQ⟩ := h n hn.symm enc w cs xs (by simpa using hlen) (fun i fl hi => hf i fl (by simpa using hi))
  rw [List.drop_zero, ← hc, ← hl, List.take_length] at hK
  refine ⟨g a, ?_, ?_, fun hw => ?_, ?_⟩
  ·show d.K w (f (g a)) cs
   rw [hg]; exact hK
  ·simp only [hg, Rows.uptoBulk]; omega
  ·show S (f (g a))
   rw [hg]
   exact hS (fun k hk => hw k (by simp only [DataW.weights, ht]; exact hk))
  ·show Q (f (g a))
   rw [hg]; exact hQ⟩
theorem bound {H : Type} {l : List (DataW H)} (hk : Rows.uptoSmall H l = true) : Rows.uptoBulkAll l ≤ 1048576 := of_decide_eq_true hk
end Go.Proofs.YtfonajakaimnoaaDoor.Opn

namespace Go.Proofs.YtfonajakaimnoaaDoor.minimalApart
open Go.ChangeShapes Go.WideShapes Go.ChangeAt Go.RowKit
open Go.Proofs.YtfonajakaimnoaaDoorW.PrintWords Opn C11 C13
set_option linter.unusedVariables false
set_option linter.unusedSimpArgs false
set_option maxRecDepth 100000
theorem own : ownKnob Tryd.prog.godebug = none := by kernel_rfl
theorem laidOut : laidOutB Tryd.prog = true := by kernel_rfl
theorem errors_laid {W : World} (h : laidMetH Tryd.prog Rows.minimalApartUptoRow.laid W) : ∃ a0 a1 a2, Sen a0 a1 a2 W := by
 have h' : laidMet Tryd.prog Rows.minimalApartUptoRow.laid W := h
 exact sen_of_laid rfl rfl rfl h'
theorem opened {H : Type} {enc : TypeId × Value → H} {W : World} {fuel : Nat} {cs : Array Value} {x : DataW H × List MemPlace} (h : DataW.trod enc Tryd.prog W 0 (fun _ => true) true fuel 27 cs.toList = some x) (hb : Rows.uptoBulk x.1 ≤ 1048576) :
  ∃ (s1 : Int) (A0 : Option Addr) (c0 : Nat) (N1 : LL) (A1 : Option Addr) (c1 : Nat) (O1 : LL) (s2 : Int) (A2 : Option Addr) (c2 : Nat) (N2 : LL) (A3 : Option Addr) (c3 : Nat) (O2 : LL) (sy : Int) (A4 : Option Addr) (c4 wl : Nat),
   cs = #[.int .i64 s1, .slice A0 N1.length c0, .slice A1 O1.length c1, .int .i64 s2, .slice A2 N2.length c2, .slice A3 O2.length c3, .int .i64 sy, .slice A4 wl c4] ∧
   Mc A0 c0 N1 A1 c1 O1 W ∧ Mc A2 c2 N2 A3 c3 O2 W ∧ Bd N1 O1 ∧ Bd N2 O2 := by
 have o25 := fun n : Nat => O.slice (P := Tryd.prog) (e' := 3) (fuel := n) Tryd.underlying25 (by kernel_rfl) (fun n _ => O.int Tryd.underlying3 (by kernel_rfl) n)
 have o22 := fun n : Nat => O.slice (P := Tryd.prog) (e' := 3) (fuel := n) Tryd.underlying22 (by kernel_rfl) (fun n _ => o25 n)
 have oM := fun n : Nat => O.struct (P := Tryd.prog) (t := 24) (f := id) id (fun _ => rfl) Tryd.underlying24 (by kernel_rfl) (fuel := n)
  (fun n _ => OF.cons (O.int Tryd.underlying3 (by kernel_rfl) n) rfl (OF.cons (o22 n) rfl (OF.one (o22 n) rfl)))
 have oR := fun n : Nat => O.struct (P := Tryd.prog) (t := 27) (f := id) id (fun _ => rfl) Tryd.underlying27 (by kernel_rfl) (fuel := n)
  (fun n _ => OF.cons (oM n) rfl (OF.cons (oM n) rfl (OF.cons (O.int Tryd.underlying3 (by kernel_rfl) n) rfl (OF.one (o25 n) rfl))))
 obtain ⟨⟨⟨s1, N1, O1⟩, ⟨s2, N2, O2⟩, sy, word⟩, hK, hm, _, _⟩ := (oR fuel).2 enc W _ _ h
 obtain ⟨_, _, e, ⟨_, _, rfl, rfl, _, _, rfl, ⟨A0, c0, rfl, h0, k0⟩, A1, c1, rfl, h1, k1⟩, _, _, rfl, ⟨_, _, rfl, rfl, _, _, rfl, ⟨A2, c2, rfl, h2, k2⟩, A3, c3, rfl, h3, k3⟩, _, _, rfl, rfl, A4, c4, rfl, h4, k4⟩ := hK
 simp only [id_eq] at hm
 have g : ∀ L : LL, ml (fun l : List Int => ml (fun _ => 1) l + 1) L ≤ 1048576 → L.length ≤ 1048576 ∧ ∀ l ∈ L, l.length ≤ 1048576 := fun L hL =>
  ⟨Nat.le_trans (ml_ge (fun _ => by omega) L) hL, fun l hl => by
   have q1 := ml_mem (m := fun l : List Int => ml (fun _ => 1) l + 1) hl
   have q2 : l.length ≤ ml (fun _ => 1) l := ml_ge (fun _ => Nat.le_refl 1) l
   have q3 : ml (fun _ => 1) l + 1 ≤ ml (fun l : List Int => ml (fun _ => 1) l + 1) L := q1
   omega⟩
 have b1 : ml (fun l : List Int => ml (fun _ => 1) l + 1) N1 ≤ 1048576 := by omega
 have b2 : ml (fun l : List Int => ml (fun _ => 1) l + 1) O1 ≤ 1048576 := by omega
 have b3 : ml (fun l : List Int => ml (fun _ => 1) l + 1) N2 ≤ 1048576 := by omega
 have b4 : ml (fun l : List Int => ml (fun _ => 1) l + 1) O2 ≤ 1048576 := by omega
 exact ⟨s1, A0, c0, N1, A1, c1, O1, s2, A2, c2, N2, A3, c3, O2, sy, A4, c4, word.length, by apply Array.toList_inj.1; simpa using e, ⟨⟨k0, h0⟩, ⟨k1, h1⟩⟩, ⟨⟨k2, h2⟩, ⟨k3, h3⟩⟩, ⟨(g _ b1).1, (g _ b2).1, (g _ b1).2, (g _ b2).2⟩, ⟨(g _ b3).1, (g _ b4).1, (g _ b3).2, (g _ b4).2⟩⟩
theorem contract (H : Type) (enc : TypeId × Value → H) (W : World) (base : Nat) (args : Array Value) (ds gs : List (DataW H)) (before : List MemPlace)
  (hval : ∀ (j : Nat) t v, Tryd.f3.params[j]? = some t → args[j]? = some v → Value.okWide Tryd.prog W .any base t v)
  (hW : DataW.Whole enc Tryd.prog Tryd.f3.params.toList Rows.minimalApartSpec.vars false W args.toList ds gs before) (hL : laidMetH Tryd.prog Rows.minimalApartUptoRow.laid W) (hbd : Rows.uptoSmall H (ds ++ gs) = true) :
  Calls Tryd.prog 3 args W fun e W' => ∃ v, e = .returned v ∧ Rows.minimalApartSpec.post enc Tryd.prog Tryd.f3 false true false false W args v W' := by
 have hW' := hW
 obtain ⟨p, q, hA0, hV, rfl, hfz, hnd⟩ := hW
 have hA : DataW.TrodAll enc Tryd.prog W 0 (fun _ => true) true Tryd.f3.params.toList args.toList ds p := hA0
 rw [Tryd.params3] at hA hval
 obtain ⟨v0, vs0, d0, ds0, p0, q0, hargs, rfl, rfl, h0, r0⟩ := trodAll_cons hA
 obtain ⟨rfl, rfl, rfl⟩ := trodAll_nil r0
 obtain rfl : args = #[v0] := by cases args; simp_all
 obtain ⟨rfl, rfl⟩ := trodVars_none hV
 obtain ⟨cs, rfl, _⟩ := okWide_struct Tryd.underlying27 (hval 0 27 v0 rfl rfl)
 have k0 := h0
 have lt0 : ∀ x ∈ p0, x.block < W.heap.size := by obtain ⟨m, hm⟩ := k0; exact DataW.trod_lt m _ _ _ hm
 obtain ⟨fuel, hf⟩ := h0
 have hbk : Rows.uptoBulk d0 ≤ 1048576 := by
  have h1 := bound hbd
  simp only [List.append_nil, List.nil_append, List.cons_append, Rows.uptoBulkAll] at h1
  omega
 obtain ⟨s1, A0, c0, N1, A1, c1, O1, s2, A2, c2, N2, A3, c3, O2, sy, A4, c4, wl, rfl, hc1, hc2, hb1, hb2⟩ := opened (cs := cs) hf hbk
 obtain ⟨a0, a1, a2, hSen⟩ := errors_laid hL
 clear hA0
 refine (law_calls hc1 hc2 hSen hb1 hb2).mono fun e W' ⟨he, bel⟩ => ?_
 subst he
 exact ⟨_, rfl, _, _, _, [], _, [], hW', trodAll_mk1 (shut_bool Tryd.underlying4 _), (trodAll_cons_mk (Below.trod laidOut (by kernel_rfl) (of_decide_eq_true (by kernel_rfl)) k0 bel lt0) trodAll_mk0), rfl, bel.frame _, fun h => by cases h⟩
noncomputable def low : Nat := (World.holding Tryd.prog default ⟨#[], #[], []⟩).heap.size
noncomputable def laidWorld (os : Os) : World :=
 let w0 := World.holding Tryd.prog os ⟨#[.cells #[.string ⟨#[97, 32, 110, 117, 109, 98, 101, 114, 32, 111, 114, 32, 97, 110, 32, 97, 114, 103, 117, 109, 101, 110, 116, 32, 105, 115, 32, 111, 117, 116, 32, 111, 102, 32, 105, 116, 115, 32, 112, 108, 97, 99, 101]⟩] 177, .cells #[.string ⟨#[97, 32, 116, 101, 120, 116, 32, 111, 114, 32, 98, 121, 116, 101, 115, 32, 116, 104, 97, 116, 32, 99, 97, 110, 110, 111, 116, 32, 98, 101, 32, 114, 101, 97, 100]⟩] 177, .cells #[.string ⟨#[97, 98, 111, 118, 101, 32, 97, 32, 108, 105, 109, 105, 116]⟩] 177, .cells #[.string ⟨#[115, 111, 109, 101, 116, 104, 105, 110, 103, 32, 105, 115, 32, 109, 105, 115, 115, 105, 110, 103]⟩] 177, .cells #[.string ⟨#[116, 104, 101, 114, 101, 32, 116, 119, 105, 99, 101]⟩] 177, .cells #[.string ⟨#[110, 111, 116, 32, 105, 110, 32, 111, 114, 100, 101, 114]⟩] 177, .cells #[.string ⟨#[110, 111, 116, 32, 116, 104, 101, 114, 101]⟩] 177, .cells #[.string ⟨#[103, 111, 101, 115, 32, 114, 111, 117, 110, 100, 32, 105, 110, 32, 97, 32, 99, 105, 114, 99, 108, 101]⟩] 177, .cells #[.string ⟨#[116, 104, 101, 32, 115, 117, 109, 32, 100, 111, 101, 115, 32, 110, 111, 116, 32, 102, 105, 116]⟩] 177, .cells #[.string ⟨#[110, 111, 116, 32, 116, 104, 101, 32, 111, 110, 101, 32, 102, 111, 114, 109, 32, 116, 104, 97, 116, 32, 105, 115, 32, 119, 114, 105, 116, 116, 101, 110]⟩] 177, .cells #[.string ⟨#[105, 116, 32, 104, 97, 115, 32, 101, 110, 100, 101, 100]⟩] 177], #[], []⟩
 { w0 with heap := (((((((((((w0.heap.modify 0 (fun | .cells _ t frozen => .cells #[.iface 162 (.pointer (some ⟨low + 0, 0, none⟩))] t frozen | o => o)).modify 1 (fun | .cells _ t frozen => .cells #[.iface 162 (.pointer (some ⟨low + 1, 0, none⟩))] t frozen | o => o)).modify 2 (fun | .cells _ t frozen => .cells #[.iface 162 (.pointer (some ⟨low + 2, 0, none⟩))] t frozen | o => o)).modify 3 (fun | .cells _ t frozen => .cells #[.iface 162 (.pointer (some ⟨low + 3, 0, none⟩))] t frozen | o => o)).modify 4 (fun | .cells _ t frozen => .cells #[.iface 162 (.pointer (some ⟨low + 4, 0, none⟩))] t frozen | o => o)).modify 5 (fun | .cells _ t frozen => .cells #[.iface 162 (.pointer (some ⟨low + 5, 0, none⟩))] t frozen | o => o)).modify 6 (fun | .cells _ t frozen => .cells #[.iface 162 (.pointer (some ⟨low + 6, 0, none⟩))] t frozen | o => o)).modify 7 (fun | .cells _ t frozen => .cells #[.iface 162 (.pointer (some ⟨low + 7, 0, none⟩))] t frozen | o => o)).modify 8 (fun | .cells _ t frozen => .cells #[.iface 162 (.pointer (some ⟨low + 8, 0, none⟩))] t frozen | o => o)).modify 9 (fun | .cells _ t frozen => .cells #[.iface 162 (.pointer (some ⟨low + 9, 0, none⟩))] t frozen | o => o)).modify 10 (fun | .cells _ t frozen => .cells #[.iface 162 (.pointer (some ⟨low + 10, 0, none⟩))] t frozen | o => o)) }
abbrev wit : Array Value := #[.agg #[.int .i64 0, .slice none 0 0, .slice none 0 0, .int .i64 0, .slice none 0 0, .slice none 0 0, .int .i64 0, .slice none 0 0]]
theorem laid_met (os : Os) : laidMet Tryd.prog Rows.minimalApartUptoRow.laid ((laidWorld os).forCall (fun _ _ => 0) ⟨#[], wit, []⟩).memory :=
 laidMet_of_run' 8 (by kernel_rfl) (by kernel_rfl)
theorem reads (os : Os) {H : Type} (enc : TypeId × Value → H) : ∃ places, DataW.whole enc Tryd.prog ((laidWorld os).forCall (fun _ _ => 0) ⟨#[], wit, []⟩).memory Tryd.f3.params.toList Rows.minimalApartSpec.vars false wit.toList 8 = some ([.agg [.agg [.lit (.int .i64 0), .nil, .nil], .agg [.lit (.int .i64 0), .nil, .nil], .lit (.int .i64 0), .nil]], [], places) :=
 ⟨[], by kernel_rfl⟩
set_option maxRecDepth 100000 in
theorem lifted (os : Os) (started : os.Started) (H : Type) (enc : TypeId × Value → H) (F : Stop.Interp) :
  ReturnsInHanded {} Tryd.checked os 3 .any ((Rows.OpenSpec.upto Rows.minimalApartSpec).preRow enc Tryd.prog Tryd.f3 Rows.minimalApartUptoRow.domain false Rows.minimalApartUptoRow.laid) (((Rows.OpenSpec.upto Rows.minimalApartSpec).at F).post enc Tryd.prog Tryd.f3 false true false false) := by
 obtain ⟨places, hx⟩ := reads os enc
 refine returnsInHanded_of_row (C := Tryd.checked) (s := Rows.OpenSpec.upto Rows.minimalApartSpec) own started (by kernel_rfl) Tryd.func3
  (witness_row_at (enc := enc) (C := Tryd.checked) false (laidWorld os) wit rfl (by kernel_rfl) (by kernel_rfl) (by kernel_rfl)
   (OpenSpec.preRow_of_cond 8 hx (by kernel_rfl) (fun k hk => by cases hk; kernel_rfl) (by kernel_rfl) (laid_met os))) ?_
 intro W base args ds gs before hval hW _ hcond _ hL _ _
 exact contract H enc W base args ds gs before hval hW hL (hcond _ rfl)
theorem said : Rows.MinimalApartUptoSaid :=
 OpenClaim.holds_of_cond 3 Tryd.f3 rfl rfl rfl rfl rfl rfl rfl ⟨rfl, rfl, rfl, rfl, rfl⟩ rfl rfl rfl rfl rfl (by kernel_rfl) Tryd.func3 (by kernel_rfl)
  (of_decide_eq_true (by kernel_rfl)) (by unfold Func.isWrapper; first | (rw [if_pos (by decide +kernel)]; kernel_rfl) | (rw [if_neg (by decide +kernel)]; exact ⟨rfl, rfl⟩))
  (fun os started H enc _ F => by rw [OpenClaim.pre_eq_preRow]; exact lifted os started H enc F)
theorem plain (f : FuncId) (fn : Func) (hf : Tryd.pinned.checked.prog.funcNamed "caesura/caesuralaw13.MinimalApart" = some f) (hfn : Tryd.pinned.checked.prog.funcs[f]? = some fn) :
  true = Tryd.pinned.checked.prog.looks [] ∧ ∀ (j : Nat) t, fn.params[j]? = some t → Tryd.pinned.checked.prog.wantsStandIn t = false := by
 obtain rfl : f = 3 := Option.some.inj ((show Tryd.prog.funcNamed "caesura/caesuralaw13.MinimalApart" = some 3 by kernel_rfl).symm.trans hf) |>.symm
 obtain rfl : fn = Tryd.f3 := (Option.some.inj (Tryd.func3.symm.trans hfn)).symm
 refine ⟨by kernel_rfl, fun j t ht => ?_⟩
 rw [Tryd.params3] at ht
 obtain rfl : t = 27 := by simpa using Array.mem_of_getElem? ht
 exact (show Tryd.prog.wantsStandIn 27 = false by kernel_rfl)
theorem card : Rows.MinimalApartUptoCardSaid :=
 Claim7.holds_tied_plain_at .later [] _ _ _ _ said (fun _ h => by cases h) (by kernel_rfl) (fun _ h => by cases h) minimalApartUpto_row_tie rfl ⟨rfl, rfl⟩ (by kernel_rfl) rfl plain (by kernel_rfl)
end Go.Proofs.YtfonajakaimnoaaDoor.minimalApart
namespace Go.Proofs.YtfonajakaimnoaaDoor
theorem minimalApart_holds : Rows.MinimalApartUptoCardSaid := minimalApart.card
end Go.Proofs.YtfonajakaimnoaaDoor
