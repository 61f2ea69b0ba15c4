/- The law ExprHolds, walked. -/
import Derived.Test.YtljdjgejmkbleaaT3
import Derived.Test.YtljdjgejmkbleaaT2
import Derived.Test.YtljdjgejmkbleaaT1
import Derived.Test.YtljdjgejmkbleaaLent
namespace Go.Proofs.Ytljdjgejmkbleaa.PExprHolds
open Go.RowKit Go.Proofs.YtljdjgejmkbleaaW.PrintWords Go.Proofs.YtljdjgejmkbleaaW.PrintLast Go.Proofs.YtljdjgejmkbleaaW.PrintMore Lent
attribute [local go_sem] max2_int min2_int max_two min_two max_three min_three max_four min_four   -- for this text's walks alone
set_option linter.unusedVariables false
set_option linter.unusedSimpArgs false

theorem holds_n (k : Nat) (b : Bool) (A1 A2 : Option Addr) (n1 c1 n2 c2 : Nat) (l1 : List ByteArray) (l2 : List S37) (cls : ByteArray) (pt : Int) (r : Bool) (w : World) (h1 : n1 = l1.length) (h2 : n2 = l2.length) (hr1 : Kd.C Kd.string w A1 l1.length l1 ∧ l1.length ≤ c1) (hr2 : Kd.C k37 w A2 l2.length l2 ∧ l2.length ≤ c2)
    (h : expr_Holds.f k b l1 l2 cls pt = some r) :
    Calls Try.prog 5 #[.agg #[.bool b, .slice A1 n1 c1, .slice A2 n2 c2], .agg #[.string cls, .int .i64 pt]] w fun e w' => e = .returned (.bool r) ∧ Below w.heap.size w w' := by
  subst h1 h2
  exact expr_Holds.calls k b A1 c1 l1 A2 c2 l2 cls pt r w hr1.1 hr1.2 hr2.1 hr2.2 h
theorem refHolds_n (k : Nat) (b : Bool) (A1 A2 : Option Addr) (n1 c1 n2 c2 : Nat) (l1 : List ByteArray) (l2 : List S37) (cls : ByteArray) (pt : Int) (r : Bool) (w : World) (h1 : n1 = l1.length) (h2 : n2 = l2.length) (hr1 : Kd.C Kd.string w A1 l1.length l1 ∧ l1.length ≤ c1) (hr2 : Kd.C k37 w A2 l2.length l2 ∧ l2.length ≤ c2)
    (h : caesuraref8_Holds.f k b l1 l2 cls pt = some r) :
    Calls Try.prog 8 #[.agg #[.bool b, .slice A1 n1 c1, .slice A2 n2 c2], .agg #[.string cls, .int .i64 pt]] w fun e w' => e = .returned (.bool r) ∧ Below w.heap.size w w' := by
  subst h1 h2
  exact caesuraref8_Holds.calls k b A1 c1 l1 A2 c2 l2 cls pt r w hr1.1 hr1.2 hr2.1 hr2.2 h
theorem kcell {W w1 : World} {S : Nat → Prop} (h : Kept W w1 S) : (∀ b o, b < W.heap.size → ¬ S b → w1.cell? ⟨b, o, none⟩ = W.cell? ⟨b, o, none⟩) ∧ (∀ b o, b < W.heap.size → ¬ S b → w1.frozen? ⟨b, o, none⟩ = W.frozen? ⟨b, o, none⟩) :=
  ⟨fun b o hb hn => by unfold World.cell?; rw [h.2 b hb hn], fun b o hb hn => by unfold World.frozen?; rw [h.2 b hb hn]⟩
theorem R_at {α : Type} {d : Kd α} {e base : Nat} {ok : Nat → Prop} {w : World} {v : Value} {xs : List α} (h : d.R e w base ok v xs) : d.R e w base (fun k => base ≤ k ∧ k < w.heap.size) v xs := Kd.R_mono (Kd.R_bound h) (fun _ hk => ⟨hk.2.1, hk.2.2.1⟩)

set_option maxHeartbeats 1000000 in
theorem law (b : Bool) (A1 : Option Addr) (c1 : Nat) (l1 : List ByteArray) (A2 : Option Addr) (c2 : Nat) (l2 : List S37) (cls : ByteArray) (pt : Int) (w : World)
    (hr1 : Kd.C Kd.string w A1 l1.length l1) (hc1 : l1.length ≤ c1) (hr2 : Kd.C k37 w A2 l2.length l2) (hc2 : l2.length ≤ c2) (hn : l1.length < 8796093022207) (hp : l2.length < 8796093022207) :
    Calls Try.prog 3 #[.agg #[.bool b, .slice A1 l1.length c1, .slice A2 l2.length c2, .string cls, .int .i64 pt]] w fun e w' => e = .returned (.bool true) ∧ Below w.heap.size w w' := by
  have hu29 := Try.underlying29
  have hu25 := Try.underlying25
  have hu27 := Try.underlying27
  have HR1 := Aside0.mk hr1
  have HC1 := Aside0.mk hc1
  have HR2 := Aside0.mk hr2
  have HC2 := Aside0.mk hc2
  clear hr1 hc1 hr2 hc2
  go_enter Try.func3, Try.ntmps3
  go_wp2_with fail
  refine (caesurakit_Set.lent b _ _ l1 _ _ l2 b l1 l2 _ (Kd.C_below HR1.out (below_alloc (Below.refl _ _) _)) HC1.out (Kd.C_below HR2.out (below_alloc (Below.refl _ _) _)) HC2.out (set_eq b l1 l2 (by omega) (by omega))).mono ?_
  rintro e w1 ⟨A1', A2', c1', c2', y1, y2, rfl, ⟨rfl, rfl⟩, ho1, ho2, hb⟩
  obtain ⟨hc, hf⟩ := bcell hb
  have hz : w.heap.size < w1.heap.size := by have := hb.size; simp at this; omega
  have HB := Aside0.mk (below_step (below_alloc (Below.refl _ _) _) hb)
  have HQ1 := Aside0.mk (Kd.R_lower (Kd.R_mono (R_at (R_cut ho1)) (fun k hk => (⟨by have := hk.1; simp at this; omega, hk.2⟩ : w.heap.size < k ∧ k < w1.heap.size))) (show w.heap.size ≤ _ by simp))
  have HQ2 := Aside0.mk (Kd.R_lower (Kd.R_mono (R_at (R_cut ho2)) (fun k hk => (⟨by have := hk.1; simp at this; omega, hk.2⟩ : w.heap.size < k ∧ k < w1.heap.size))) (show w.heap.size ≤ _ by simp))
  have P1 := Aside0.mk (R_pre ho1)
  have P2 := Aside0.mk (R_pre ho2)
  have HM : ∃ B1 B2, A1' = some B1 ∧ A2' = some B2 ∧ Aside0 (w1.cell? (B1.add l1.length) = some (.string ⟨#[109, 97, 114, 107]⟩) ∧ w1.cell? (B2.add (l2.length * 2)) = some (.int .i64 (-77))) := by
    obtain ⟨B1, k1, e1, h1, u1⟩ := C_nth (Kd.R_reads' ho1).2.2 l1.length ⟨#[109, 97, 114, 107]⟩ (by simp)
    obtain ⟨B2, k2, e2, h2, u2⟩ := C_nth (Kd.R_reads' ho2).2.2 l2.length ⟨(-77), 0⟩ (by simp)
    obtain rfl := k37_open h2
    obtain rfl : k1 = [.string ⟨#[109, 97, 114, 107]⟩] := h1
    exact ⟨B1, B2, e1, e2, ⟨by have := u1 0 _ rfl; rwa [show l1.length * Kd.string.sz + 0 = l1.length from Nat.mul_one _] at this, u2 0 _ rfl⟩⟩
  obtain ⟨B1, B2, rfl, rfl, HM⟩ := HM
  clear ho1 ho2 hb
  have HS := Aside0.mk (holds_eq b l1 l2 cls pt (by omega) (by omega) (k := l1.length + l2.length + 2) (by omega) (by omega))
  have HD := Aside0.mk (sameSet_self b l1 l2 (by omega) (by omega) (k := l1.length + l2.length + 2) (by omega) (by omega))
  have HT := Aside0.mk (refHolds_eq b l1 l2 cls pt (by omega) (by omega) (k := l1.length + l2.length + 2) (by omega))
  go_wp2_with fail
  refine (expr_Holds.calls _ b _ c1' l1 _ c2' l2 cls pt _ _ (Kd.C_below P1.out.1 (below_alloc (Below.refl _ _) _)) P1.out.2.1 (Kd.C_below P2.out.1 (below_alloc (Below.refl _ _) _)) P2.out.2.1 HS.out).mono ?_
  rintro e w2 ⟨rfl, hb⟩
  obtain ⟨hc2, hf2⟩ := bcell hb
  have hz2 : w1.heap.size < w2.heap.size := by have := hb.size; simp at this; omega
  have hy2 : w.heap.size < w2.heap.size := by omega
  have HB2 := Aside0.mk (below_step (below_alloc (Below.refl _ _) _) hb)
  clear hb
  go_wp2_with fail
  refine (caesuraref0_SameSet.calls _ b _ c1' l1 _ c2' l2 b _ _ l1 _ _ l2 _ _ (Kd.C_below P1.out.1 HB2.out) P1.out.2.1 (Kd.C_below P2.out.1 HB2.out) P2.out.2.1 (Kd.C_below (Kd.C_below HR1.out HB.out) HB2.out) HC1.out (Kd.C_below (Kd.C_below HR2.out HB.out) HB2.out) HC2.out HD.out).mono ?_
  rintro e w3 ⟨rfl, hb⟩
  obtain ⟨hc3, hf3⟩ := bcell hb
  have hz3 : w1.heap.size < w3.heap.size := by have := hb.size; omega
  have hy3 : w.heap.size < w3.heap.size := by omega
  have HB3 := Aside0.mk (below_step HB2.out hb)
  clear hb
  go_wp2_with fail
  refine (SetLeft_calls b B1 B2 l1.length l2.length c1' c2' _ (pw_cell_below HB3.out HM.out.1) (by have := P1.out.2.2; simpa using this) (by omega) (pw_cell_below HB3.out HM.out.2) (by have := P2.out.2.2; simpa using this) (by omega)).mono ?_
  rintro e w4 ⟨rfl, hb⟩
  obtain ⟨hc4, hf4⟩ := bcell hb
  have hz4 : w1.heap.size < w4.heap.size := by have := hb.size; omega
  have hy4 : w.heap.size < w4.heap.size := by omega
  have HB4 := Aside0.mk (below_step HB3.out hb)
  clear hb
  have hbb : (holdsB b l1 l2 cls pt != holdsB b l1 l2 cls pt) = false := by simp
  go_wp2_with fail
  refine (caesuraref8_Holds.calls _ b _ _ l1 _ _ l2 cls pt _ _ (Kd.C_below (Kd.C_below HR1.out HB.out) HB4.out) HC1.out (Kd.C_below (Kd.C_below HR2.out HB.out) HB4.out) HC2.out HT.out).mono ?_
  rintro e w5 ⟨rfl, hb⟩
  obtain ⟨hc5, hf5⟩ := bcell hb
  have hz5 : w1.heap.size < w5.heap.size := by have := hb.size; omega
  have hy5 : w.heap.size < w5.heap.size := by omega
  have HB5 := Aside0.mk (below_step HB4.out hb)
  clear hb
  go_wp2_with fail
  have HU := Aside0.mk (over_eq b l1 l2)
  refine (caesurakit_OverSet.calls b (fun k => w.heap.size < k ∧ k < w1.heap.size) _ l1 (fun k => w.heap.size < k ∧ k < w1.heap.size) _ l2 _ _ w w5 (below_step HB.out HB5.out) (Kd.R_below HQ1.out HB5.out) (Kd.R_below HQ2.out HB5.out) HU.out).mono ?_
  rintro e w6 ⟨rfl, hq1, hq2, hb, hk⟩
  obtain ⟨hc6, hf6⟩ := kcell hk
  have hz6 : w1.heap.size < w6.heap.size := by have := hk.1; omega
  have hy6 : w.heap.size < w6.heap.size := by omega
  have K1 := Aside0.mk (Kd.R_reads' hq1).2
  have K2 := Aside0.mk (Kd.R_reads' hq2).2
  have HB6 := Aside0.mk hb
  clear hb hk hq1 hq2
  have hc6a := fun o => hc6 w1.heap.size o hz5 (by simp)
  have hc6b := fun o => hc6 w.heap.size o hy5 (by simp)
  have hf6a := fun o => hf6 w1.heap.size o hz5 (by simp)
  have hf6b := fun o => hf6 w.heap.size o hy5 (by simp)
  clear hc6 hf6
  have HX := Aside0.mk (holds_eq b (overN l1) (overP l2) cls pt (by rw [overN_length]; omega) (by rw [overP_length]; omega) (k := l1.length + l2.length + 2) (by rw [overN_length]; omega) (by rw [overP_length]; omega))
  have HY := Aside0.mk (refHolds_eq b (overN l1) (overP l2) cls pt (by rw [overN_length]; omega) (by rw [overP_length]; omega) (k := l1.length + l2.length + 2) (by rw [overN_length, overP_length]; omega))
  go_wp2_with fail
  refine (refHolds_n _ b _ _ _ c1' _ c2' (overN l1) (overP l2) cls pt _ w6 (overN_length _).symm (overP_length _).symm ⟨K1.out.2, by rw [overN_length]; exact K1.out.1⟩ ⟨K2.out.2, by rw [overP_length]; exact K2.out.1⟩ HY.out).mono ?_
  rintro e w7 ⟨rfl, hb⟩
  obtain ⟨hc7, hf7⟩ := bcell hb
  have hz7 : w1.heap.size < w7.heap.size := by have := hb.size; omega
  have hy7 : w.heap.size < w7.heap.size := by omega
  have HB7 := Aside0.mk hb
  clear hb
  go_wp2_with fail
  refine (holds_n _ b _ _ _ c1' _ c2' (overN l1) (overP l2) cls pt _ w7 (overN_length _).symm (overP_length _).symm ⟨Kd.C_below K1.out.2 HB7.out, by rw [overN_length]; exact K1.out.1⟩ ⟨Kd.C_below K2.out.2 HB7.out, by rw [overP_length]; exact K2.out.1⟩ HX.out).mono ?_
  rintro e w8 ⟨rfl, hb⟩
  have HB8 := Aside0.mk (below_step HB6.out (below_step HB7.out hb))
  clear hb
  have hbc : (holdsB b (overN l1) (overP l2) cls pt == holdsB b (overN l1) (overP l2) cls pt) = true := by simp
  go_wp2_with fail
  go_ret
  exact ⟨rfl, HB8.out⟩
end Go.Proofs.Ytljdjgejmkbleaa.PExprHolds
