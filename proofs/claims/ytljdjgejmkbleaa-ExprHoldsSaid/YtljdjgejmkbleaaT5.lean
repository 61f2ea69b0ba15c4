/- ExprHolds: of every set and every unit: whatever the set and the unit (any lists that can be read), the law's call returns true and leaves what it was handed as it was. No further condition. -/
import Derived.Test.YtljdjgejmkbleaaRows
import Derived.Test.YtljdjgejmkbleaaT4
import Derived.Test.YtljdjgejmkbleaaOpen
import Derived.WalkKit
import Derived.ProofKit
import Derived.OpenShut
import Derived.ShutString
import Derived.ChangeOld
import Derived.Below
import Derived.SizedLaws
namespace Go.Proofs.Ytljdjgejmkbleaa.exprHolds
open Go.ChangeShapes Go.WideShapes Go.ChangeAt Go.RowKit
open Go.Proofs.YtljdjgejmkbleaaW.PrintWords Opn PExprHolds
set_option linter.unusedVariables false
theorem own : ownKnob Try.prog.godebug = none := by kernel_rfl
theorem laidOut : laidOutB Try.prog = true := by kernel_rfl

theorem opened {H : Type} {enc : TypeId × Value → H} {W : World} {fuel : Nat} {cs : Array Value} {x : DataW H × List MemPlace} (h : DataW.trod enc Try.prog W 0 (fun _ => true) true fuel 29 cs.toList = some x) (hw : ∀ n ∈ x.1.weights Try.prog 29, n ≤ reachBytes) :
    ∃ (b : Bool) (A1 : Option Addr) (c1 : Nat) (l1 : List ByteArray) (A2 : Option Addr) (c2 : Nat) (l2 : List S37) (cls : ByteArray) (pt : Int), cs = #[.bool b, .slice A1 l1.length c1, .slice A2 l2.length c2, .string cls, .int .i64 pt] ∧
      Kd.C Kd.string W A1 l1.length l1 ∧ l1.length ≤ c1 ∧ Kd.C k37 W A2 l2.length l2 ∧ l2.length ≤ c2 ∧ l1.length < 8796093022207 ∧ l2.length < 8796093022207 := by
  have o37 := fun n : Nat => O.struct (P := Try.prog) (t := 37) (f := fun x : S37 => (x.f0, x.f1)) (fun p => ⟨p.1, p.2⟩) (fun _ => rfl) Try.underlying37 (by kernel_rfl) (fuel := n) (fun n _ => OF.cons (O.int Try.underlying3 (by kernel_rfl) n) rfl (OF.one (O.int Try.underlying3 (by kernel_rfl) n) rfl))
  have o25 := fun n : Nat => O.struct (P := Try.prog) (t := 25) (f := id) id (fun _ => rfl) Try.underlying25 (by kernel_rfl) (fuel := n)
    (fun n _ => OF.cons (O.bool Try.underlying4 (by kernel_rfl) n) rfl (OF.cons (O.slice (e' := 9) Try.underlying22 (by kernel_rfl) (fun n _ => O.string Try.underlying9 (by kernel_rfl) n)) rfl (OF.one (O.slice (e' := 37) Try.underlying23 (by kernel_rfl) (fun n _ => o37 n)) rfl)))
  have o27 := fun n : Nat => O.struct (P := Try.prog) (t := 27) (f := id) id (fun _ => rfl) Try.underlying27 (by kernel_rfl) (fuel := n)
    (fun n _ => OF.cons (O.string Try.underlying9 (by kernel_rfl) n) rfl (OF.one (O.int Try.underlying3 (by kernel_rfl) n) rfl))
  have o29 := fun n : Nat => O.struct (P := Try.prog) (t := 29) (f := id) id (fun _ => rfl) Try.underlying29 (by kernel_rfl) (fuel := n)
    (fun n _ => OF.cons (o25 n) rfl (OF.one (o27 n) rfl))
  obtain ⟨⟨⟨b, l1, l2⟩, cls, pt⟩, hK, _, hS, _⟩ := (o29 fuel).2 enc W _ _ h
  obtain ⟨_, _, e, ⟨_, _, rfl, rfl, _, _, rfl, ⟨A1, c1, rfl, h1, h2⟩, A2, c2, rfl, h3, h4⟩, _, _, rfl, rfl, rfl⟩ := hK
  obtain ⟨⟨_, ⟨h5, _⟩, h6, _⟩, _⟩ := hS hw
  have b1 : Try.prog.bytesOf 9 = 16 := by kernel_rfl
  have b2 : Try.prog.bytesOf 37 = 16 := by kernel_rfl
  rw [b1] at h5
  rw [b2] at h6
  have h7 : l1.length * 16 ≤ 0x7ffffffff000 := h5
  have h8 : l2.length * 16 ≤ 0x7ffffffff000 := h6
  clear h5 h6 hS
  exact ⟨b, A1, c1, l1, A2, c2, l2, cls, pt, by apply Array.toList_inj.1; simpa using e, h2, h1, h4, h3, by omega, by omega⟩

set_option maxRecDepth 100000 in
theorem lifted (os : Os) (started : os.Started) (H : Type) (enc : TypeId × Value → H) :
    ReturnsInHanded {} Try.checked os 3 .any (Rows.exprHoldsSpec.pre6 enc Try.prog Try.f3 Rows.exprHoldsRow.domain false) (Rows.exprHoldsSpec.post enc Try.prog Try.f3 false true false false) := by
  refine returnsInHanded_of_change_sized (C := Try.checked) own started (by kernel_rfl) Try.func3
    (ChangeSpec.witness6 (enc := enc) (C := Try.checked) false ⟨#[], #[.agg #[.bool false, .slice none 0 0, .slice none 0 0, .string ByteArray.empty, .int .i64 0]], []⟩ 8 (by kernel_rfl) (by kernel_rfl) (by kernel_rfl) (by kernel_rfl)) ?_
  intro W base args ds gs before hval0 hW hcnd hsz0 _
  have hsz : (DataW.weightsEach Try.prog (Try.f3.params.toList ++ Rows.exprHoldsSpec.plain.varTypes Try.prog) (ds ++ gs)).all (· ≤ reachBytes) = true := hsz0
  have hval : ∀ (j : Nat) t v, Try.f3.params[j]? = some t → args[j]? = some v → Value.okWide Try.prog W .any base t v := hval0
  have hW' := hW
  obtain ⟨p, q, hA0, hV, rfl, hfz, hnd⟩ := hW
  have hA : DataW.TrodAll enc Try.prog W 0 (fun _ => true) true Try.f3.params.toList args.toList ds p := hA0
  rw [Try.params3] at hA hval hsz
  obtain ⟨v0, vs0, d0, ds0, p0, q0, hargs, rfl, rfl, h0, r0⟩ := trodAll_cons hA
  obtain ⟨rfl, rfl, rfl⟩ := trodAll_nil r0
  obtain rfl : args = #[v0] := by cases args; simp_all
  obtain ⟨rfl, rfl⟩ := trodVars_none hV
  obtain ⟨cs, rfl, _⟩ := okWide_struct Try.underlying29 (hval 0 29 v0 rfl rfl)
  have k0 := h0
  have lt0 : ∀ x ∈ p0, x.block < W.heap.size := by obtain ⟨m, hm⟩ := k0; exact DataW.trod_lt m _ _ _ hm
  have hw : ∀ n ∈ d0.weights Try.prog 29, n ≤ reachBytes := fun n hn => by
    have := List.all_eq_true.1 hsz n (DataW.weights_mem_each (j := 0) (t := 29) rfl rfl n hn)
    simpa using this
  obtain ⟨fuel, hf⟩ := h0
  obtain ⟨b, A1, c1, l1, A2, c2, l2, cls, pt, rfl, e1, e2, e3, e4, e5, e6⟩ := opened (cs := cs) hf hw
  clear hA0 hval0 hsz0 hsz
  refine (law b A1 c1 l1 A2 c2 l2 cls pt W e1 e2 e3 e4 e5 e6).mono fun e W' ⟨he, bel⟩ => ?_
  subst he
  exact ⟨_, rfl, _, _, _, [], _, [], hW', trodAll_mk1 (shut_bool Try.underlying4 _), (trodAll_cons_mk (Below.trod laidOut (by kernel_rfl) (of_decide_eq_true (by kernel_rfl)) k0 bel lt0) trodAll_mk0), rfl, bel.frame _, fun h => by cases h⟩
theorem over : Rows.exprHoldsRow.holds Try.pinned (OpenSpec.ofChange Rows.exprHoldsSpec) :=
  OpenClaim.holds_of_wide 3 Try.f3 rfl rfl rfl rfl rfl rfl rfl ⟨rfl, rfl, rfl, rfl, rfl⟩ rfl rfl rfl rfl rfl (by kernel_rfl) Try.func3 (by kernel_rfl)
    (of_decide_eq_true (by kernel_rfl)) (by unfold Func.isWrapper; first | (rw [if_pos (by decide +kernel)]; kernel_rfl) | (rw [if_neg (by decide +kernel)]; exact ⟨rfl, rfl⟩))
    (fun os started H enc _ => lifted os started H enc)
theorem proved : Rows.ExprHoldsSaid := over
#print axioms proved
end Go.Proofs.Ytljdjgejmkbleaa.exprHolds
namespace Go.Proofs.Ytljdjgejmkbleaa
/-- The row, under a short name, for the claim. -/
theorem exprHolds_holds : Rows.ExprHoldsSaid := exprHolds.proved
end Go.Proofs.Ytljdjgejmkbleaa
