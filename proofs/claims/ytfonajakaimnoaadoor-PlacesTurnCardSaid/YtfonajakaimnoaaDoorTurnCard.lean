/- PlacesTurn: positions that may be are turned round into such, they match the words turned round, and are as they were when they are turned twice: whatever the positions, the number of symbols and the word that are handed in, the law's call returns true and leaves what it was handed as it was. The package's two errors are laid as their initialisers lay them. -/
import Derived.Test.YtfonajakaimnoaaDoorCards
import Derived.Test.YtfonajakaimnoaaDoorTie
import Derived.Test.YtfonajakaimnoaaDoorPlain3
import Derived.Test.YtfonajakaimnoaaDoorOpen
import Derived.WalkKit
import Derived.ProofKit
import Derived.OpenShut
import Derived.Deep.DeepHandedRow
import Derived.LaidLaws
import Derived.Below
namespace Go.Proofs.YtfonajakaimnoaaDoor.placesTurn
open Go.ChangeShapes Go.WideShapes Go.ChangeAt Go.RowKit
open Go.Proofs.YtfonajakaimnoaaDoorW.PrintWords Opn C11
set_option linter.unusedVariables false
set_option linter.unusedSimpArgs false
set_option maxRecDepth 100000
theorem own : ownKnob Tryd.prog.godebug = none := by kernel_rfl
theorem laidOut : laidOutB Tryd.prog = true := by kernel_rfl
theorem gArg : Tryd.prog.globalNamed "caesura/api.ErrArg" = some 0 := by kernel_rfl
theorem gMany : Tryd.prog.globalNamed "caesura/api.ErrMany" = some 2 := by kernel_rfl
theorem gArgType : (Tryd.prog.globals[0]?).map (·.type) = some 30 := by kernel_rfl
theorem gManyType : (Tryd.prog.globals[2]?).map (·.type) = some 30 := by kernel_rfl

theorem errors_laid {W : World} (h : laidMetH Tryd.prog Rows.placesTurnRow.laid W) : ∃ eM eA, W.cell? ⟨2, 0, none⟩ = some eM ∧ W.cell? ⟨0, 0, none⟩ = some eA := by
  have h' : laidMet Tryd.prog Rows.placesTurnRow.laid W := h
  obtain ⟨ps, ⟨g0, t0, cs0, f0, p0, q0, hg0, ht0, hv0, hd0, ⟨g1, t1, cs1, f1, p1, q1, hg1, ht1, hv1, hd1, hq1, e1⟩, e0⟩, hnd, hrows⟩ := h'
  obtain rfl := Option.some.inj (gArg.symm.trans hg0)
  obtain rfl := Option.some.inj (gMany.symm.trans hg1)
  obtain rfl := Option.some.inj (gArgType.symm.trans ht0)
  obtain rfl := Option.some.inj (gManyType.symm.trans ht1)
  obtain ⟨l0⟩ := cs0
  obtain ⟨l1⟩ := cs1
  obtain ⟨_, u0, x0, rfl, _, _⟩ := iface_of_trod Tryd.underlying30 hd0
  obtain ⟨_, u1, x1, rfl, _, _⟩ := iface_of_trod Tryd.underlying30 hd1
  exact ⟨_, _, by simpa using World.var?_cell hg1 hv1 0, by simpa using World.var?_cell hg0 hv0 0⟩

theorem opened {H : Type} {enc : TypeId × Value → H} {W : World} {fuel : Nat} {cs : Array Value} {x : DataW H × List MemPlace} (h : DataW.trod enc Tryd.prog W 0 (fun _ => true) true fuel 44 cs.toList = some x) :
    ∃ (A0 : Option Addr) (c0 : Nat) (X0 : LL) (A1 : Option Addr) (c1 : Nat) (X1 : List Int) (A2 : Option Addr) (c2 : Nat) (X2 : List Int) (A3 : Option Addr) (c3 : Nat) (X3 : LL) (b : Bool) (sy : Int) (A4 : Option Addr) (c4 : Nat) (word : List Int),
      cs = #[.slice A0 X0.length c0, .slice A1 X1.length c1, .slice A2 X2.length c2, .slice A3 X3.length c3, .bool b, .int .i64 sy, .slice A4 word.length c4] ∧
      (Kd.C kL W A0 X0.length X0 ∧ X0.length ≤ c0) ∧ (Kd.C kI W A1 X1.length X1 ∧ X1.length ≤ c1) ∧ (Kd.C kI W A2 X2.length X2 ∧ X2.length ≤ c2) ∧ (Kd.C kL W A3 X3.length X3 ∧ X3.length ≤ c3) ∧ Kd.C kI W A4 word.length word := by
  have o25 := fun n : Nat => O.slice (P := Tryd.prog) (e' := 3) (fuel := n) Tryd.underlying25 (by kernel_rfl) (fun n _ => O.int Tryd.underlying3 (by kernel_rfl) n)
  have o22 := fun n : Nat => O.slice (P := Tryd.prog) (e' := 3) (fuel := n) Tryd.underlying22 (by kernel_rfl) (fun n _ => o25 n)
  have o42 := fun n : Nat => O.struct (P := Tryd.prog) (t := 42) (f := id) id (fun _ => rfl) Tryd.underlying42 (by kernel_rfl) (fuel := n)
    (fun n _ => OF.cons (o22 n) rfl (OF.cons (o25 n) rfl (OF.cons (o25 n) rfl (OF.cons (o22 n) rfl (OF.one (O.bool Tryd.underlying4 (by kernel_rfl) n) rfl)))))
  have o44 := fun n : Nat => O.struct (P := Tryd.prog) (t := 44) (f := id) id (fun _ => rfl) Tryd.underlying44 (by kernel_rfl) (fuel := n)
    (fun n _ => OF.cons (o42 n) rfl (OF.cons (O.int Tryd.underlying3 (by kernel_rfl) n) rfl (OF.one (o25 n) rfl)))
  obtain ⟨⟨⟨X0, X1, X2, X3, b⟩, sy, word⟩, hK, _⟩ := (o44 fuel).2 enc W _ _ h
  obtain ⟨_, _, e, ⟨_, _, rfl, ⟨A0, c0, rfl, h0, k0⟩, _, _, rfl, ⟨A1, c1, rfl, h1, k1⟩, _, _, rfl, ⟨A2, c2, rfl, h2, k2⟩, _, _, rfl, ⟨A3, c3, rfl, h3, k3⟩, rfl⟩, _, _, rfl, rfl, A4, c4, rfl, h4, k4⟩ := hK
  exact ⟨A0, c0, X0, A1, c1, X1, A2, c2, X2, A3, c3, X3, b, sy, A4, c4, word, by apply Array.toList_inj.1; simpa using e, ⟨k0, h0⟩, ⟨k1, h1⟩, ⟨k2, h2⟩, ⟨k3, h3⟩, k4⟩

theorem rows_bound {W : World} {A : Option Addr} {X : LL} (h : Kd.C kL W A X.length X) : ∀ x ∈ X, x.length ≤ 9223372036854775807 := fun x hx => by
  obtain ⟨j, hj, rfl⟩ := List.getElem_of_mem hx
  obtain ⟨_, _, _, _, _, _, hC⟩ := Fn.list_at h j _ (List.getElem?_eq_getElem hj)
  exact Lent.C_bound hC
/-- The law's call, whatever it is handed. -/
theorem law (A0 : Option Addr) (c0 : Nat) (X0 : LL) (A1 : Option Addr) (c1 : Nat) (X1 : List Int) (A2 : Option Addr) (c2 : Nat) (X2 : List Int) (A3 : Option Addr) (c3 : Nat) (X3 : LL) (b : Bool) (sy : Int) (A4 : Option Addr) (c4 : Nat) (word : List Int) (w : World) (eM eA : Value)
    (h0 : Kd.C kL w A0 X0.length X0 ∧ X0.length ≤ c0) (h1 : Kd.C kI w A1 X1.length X1 ∧ X1.length ≤ c1) (h2 : Kd.C kI w A2 X2.length X2 ∧ X2.length ≤ c2) (h3 : Kd.C kL w A3 X3.length X3 ∧ X3.length ≤ c3) (h4 : Kd.C kI w A4 word.length word)
    (hM : w.cell? ⟨2, 0, none⟩ = some eM) (hA : w.cell? ⟨0, 0, none⟩ = some eA) :
    Calls Tryd.prog 5 #[.agg #[.slice A0 X0.length c0, .slice A1 X1.length c1, .slice A2 X2.length c2, .slice A3 X3.length c3, .bool b, .int .i64 sy, .slice A4 word.length c4]] w fun e w' => e = .returned (.bool true) ∧ Below w.heap.size w w' := by
  obtain ⟨L, F, La, Fo, hG, hE⟩ := tidy_ev X0 X1 X2 X3 b (rows_bound h0.1) (rows_bound h3.1) (Lent.C_bound h1.1) (Lent.C_bound h2.1)
  obtain ⟨kt, hkt⟩ := hE.rounds
  obtain ⟨ks, hP⟩ := plain_of hG b ((word.take 20).map pk) (by simp; omega)
  exact turn_calls A0 c0 X0 A1 c1 X1 A2 c2 X2 A3 c3 X3 b sy A4 c4 word w eM eA h0 h1 h2 h3 h4 hM hA kt L F La Fo hkt ks _ _ hP

theorem contract (H : Type) (enc : TypeId × Value → H) (W : World) (base : Nat) (args : Array Value) (ds gs : List (DataW H)) (before : List MemPlace)
    (hval : ∀ (j : Nat) t v, Tryd.f5.params[j]? = some t → args[j]? = some v → Value.okWide Tryd.prog W .any base t v)
    (hW : DataW.Whole enc Tryd.prog Tryd.f5.params.toList Rows.placesTurnSpec.vars false W args.toList ds gs before) (hL : laidMetH Tryd.prog Rows.placesTurnRow.laid W) :
    Calls Tryd.prog 5 args W fun e W' => ∃ v, e = .returned v ∧ Rows.placesTurnSpec.post enc Tryd.prog Tryd.f5 false true false false W args v W' := by
  have hW' := hW
  obtain ⟨p, q, hA0, hV, rfl, hfz, hnd⟩ := hW
  have hA : DataW.TrodAll enc Tryd.prog W 0 (fun _ => true) true Tryd.f5.params.toList args.toList ds p := hA0
  rw [Tryd.params5] at hA hval
  obtain ⟨v0, vs0, d0, ds0, p0, q0, hargs, rfl, rfl, h0, r0⟩ := trodAll_cons hA
  obtain ⟨rfl, rfl, rfl⟩ := trodAll_nil r0
  obtain rfl : args = #[v0] := by cases args; simp_all
  obtain ⟨rfl, rfl⟩ := trodVars_none hV
  obtain ⟨cs, rfl, _⟩ := okWide_struct Tryd.underlying44 (hval 0 44 v0 rfl rfl)
  have k0 := h0
  have lt0 : ∀ x ∈ p0, x.block < W.heap.size := by obtain ⟨m, hm⟩ := k0; exact DataW.trod_lt m _ _ _ hm
  obtain ⟨fuel, hf⟩ := h0
  obtain ⟨A0, c0, X0, A1, c1, X1, A2, c2, X2, A3, c3, X3, b, sy, A4, c4, word, rfl, e0, e1, e2, e3, e4⟩ := opened (cs := cs) hf
  obtain ⟨eM, eA, hM, hE⟩ := errors_laid hL
  clear hA0
  refine (law A0 c0 X0 A1 c1 X1 A2 c2 X2 A3 c3 X3 b sy A4 c4 word W eM eA e0 e1 e2 e3 e4 hM hE).mono fun e W' ⟨he, bel⟩ => ?_
  subst he
  exact ⟨_, rfl, _, _, _, [], _, [], hW', trodAll_mk1 (shut_bool Tryd.underlying4 _), (trodAll_cons_mk (Below.trod laidOut (by kernel_rfl) (of_decide_eq_true (by kernel_rfl)) k0 bel lt0) trodAll_mk0), rfl, bel.frame _, fun h => by cases h⟩

abbrev argS : ByteArray := { data := #[97, 32, 110, 117, 109, 98, 101, 114, 32, 111, 114, 32, 97, 110, 32, 97, 114, 103, 117, 109, 101, 110, 116, 32, 105, 115, 32, 111, 117, 116, 32, 111, 102, 32, 105, 116, 115, 32, 112, 108, 97, 99, 101] }
abbrev manyS : ByteArray := { data := #[97, 98, 111, 118, 101, 32, 97, 32, 108, 105, 109, 105, 116] }
noncomputable def low : Nat := (World.holding Tryd.prog default ⟨#[], #[], []⟩).heap.size
/-- A world for the witness: the two errors laid. -/
noncomputable def laidWorld (os : Os) : World :=
  let w0 := World.holding Tryd.prog os ⟨#[.cells #[.string argS] 177, .cells #[.string manyS] 177], #[], []⟩
  { w0 with heap := (w0.heap.modify 0 fun
      | .cells _ t frozen => .cells #[.iface 162 (.pointer (some ⟨low, 0, none⟩))] t frozen
      | o => o).modify 2 fun
      | .cells _ t frozen => .cells #[.iface 162 (.pointer (some ⟨low + 1, 0, none⟩))] t frozen
      | o => o }
abbrev wit : Array Value := #[.agg #[.slice none 0 0, .slice none 0 0, .slice none 0 0, .slice none 0 0, .bool false, .int .i64 0, .slice none 0 0]]
theorem laid_met (os : Os) : laidMet Tryd.prog Rows.placesTurnRow.laid ((laidWorld os).forCall (fun _ _ => 0) ⟨#[], wit, []⟩).memory :=
  laidMet_of_run' 8 (by kernel_rfl) (by kernel_rfl)

set_option maxRecDepth 100000 in
theorem lifted (os : Os) (started : os.Started) (H : Type) (enc : TypeId × Value → H) (F : Stop.Interp) :
    ReturnsInHanded {} Tryd.checked os 5 .any ((OpenSpec.ofChange Rows.placesTurnSpec).preRow enc Tryd.prog Tryd.f5 Rows.placesTurnRow.domain false Rows.placesTurnRow.laid) (((OpenSpec.ofChange Rows.placesTurnSpec).at F).post enc Tryd.prog Tryd.f5 false true false false) := by
  obtain ⟨⟨ds0, gs0, places⟩, hx⟩ := Option.isSome_iff_exists.1 (show (DataW.whole enc Tryd.prog ((laidWorld os).forCall (fun _ _ => 0) ⟨#[], wit, []⟩).memory Tryd.f5.params.toList Rows.placesTurnSpec.vars false wit.toList 8).isSome = true by kernel_rfl)
  refine returnsInHanded_of_row (C := Tryd.checked) (s := OpenSpec.ofChange Rows.placesTurnSpec) own started (by kernel_rfl) Tryd.func5
    (witness_row_at (enc := enc) (C := Tryd.checked) false (laidWorld os) wit rfl (by kernel_rfl) (by kernel_rfl) (by kernel_rfl)
      (OpenSpec.preRow_of_cond 8 hx (by kernel_rfl) (fun k hk => by cases hk) (by kernel_rfl) (laid_met os))) ?_
  intro W base args ds gs before hval hW _ _ _ hL _ _
  exact contract H enc W base args ds gs before hval hW hL
theorem said : Rows.PlacesTurnSaid :=
  OpenClaim.holds_of_cond 5 Tryd.f5 rfl rfl rfl rfl rfl rfl rfl ⟨rfl, rfl, rfl, rfl, rfl⟩ rfl rfl rfl rfl rfl (by kernel_rfl) Tryd.func5 (by kernel_rfl)
    (of_decide_eq_true (by kernel_rfl)) (by unfold Func.isWrapper; first | (rw [if_pos (by decide +kernel)]; kernel_rfl) | (rw [if_neg (by decide +kernel)]; exact ⟨rfl, rfl⟩))
    (fun os started H enc _ F => by rw [OpenClaim.pre_eq_preRow]; exact lifted os started H enc F)
theorem plain (f : FuncId) (fn : Func) (hf : Tryd.pinned.checked.prog.funcNamed "caesura/caesuralaw11.PlacesTurn" = some f) (hfn : Tryd.pinned.checked.prog.funcs[f]? = some fn) :
    true = Tryd.pinned.checked.prog.looks [] ∧ ∀ (j : Nat) t, fn.params[j]? = some t → Tryd.pinned.checked.prog.wantsStandIn t = false := by
  obtain rfl : f = 5 := Option.some.inj ((show Tryd.prog.funcNamed "caesura/caesuralaw11.PlacesTurn" = some 5 by kernel_rfl).symm.trans hf) |>.symm
  obtain rfl : fn = Tryd.f5 := (Option.some.inj (Tryd.func5.symm.trans hfn)).symm
  refine ⟨by kernel_rfl, fun j t ht => ?_⟩
  rw [Tryd.params5] at ht
  obtain rfl : t = 44 := by simpa using Array.mem_of_getElem? ht
  exact (show Tryd.prog.wantsStandIn 44 = false by kernel_rfl)
theorem card : Rows.PlacesTurnCardSaid :=
  Claim7.holds_tied_plain_at .later [] _ _ _ _ said (fun _ h => by cases h) (by kernel_rfl) (fun _ h => by cases h) placesTurn_row_tie rfl ⟨rfl, rfl⟩ (by kernel_rfl) rfl plain (by kernel_rfl)
end Go.Proofs.YtfonajakaimnoaaDoor.placesTurn
namespace Go.Proofs.YtfonajakaimnoaaDoor
/-- The card, under a short name, for the claim. -/
theorem placesTurn_holds : Rows.PlacesTurnCardSaid := placesTurn.card
end Go.Proofs.YtfonajakaimnoaaDoor
