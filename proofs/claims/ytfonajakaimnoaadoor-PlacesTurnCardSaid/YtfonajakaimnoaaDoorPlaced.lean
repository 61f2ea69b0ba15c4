/- places.placed, slices.Clone at numbers: what they come to. -/
import Derived.Test.YtfonajakaimnoaaDoorFn
import Derived.Laws.EntriesVeiled
import Derived.Shelf.Abstract
import Derived.Test.YtfonajakaimnoaaDoorLib32
namespace Go.Proofs.YtfonajakaimnoaaDoor.C11
open Go.RowKit Go.Proofs.YtfonajakaimnoaaDoorW.PrintWords Go.Proofs.YtfonajakaimnoaaDoorW.PrintLast Go.Proofs.YtfonajakaimnoaaDoorW.PrintMore Go.Proofs.YtfonajakaimnoaaDoor.Lib Lent Go.Proofs.YtfonajakaimnoaaDoor.Fn Go.Shelf
attribute [local go_sem] max2_int min2_int max_two min_two max_three min_three max_four min_four

abbrev LL := List (List Int)
abbrev kI : Kd Int := Kd.int .i64
abbrev kL : Kd (List Int) := Kd.slice 3 (Kd.int .i64)
def wrongB (n : Nat) (x : Int) : Bool := decide (x < 0) || decide (x ≥ (n : Int))
def placedB (L : LL) (F La : List Int) (Fo : LL) : Bool := decide (Fo.length = L.length) && !((F :: La :: Fo).any (fun l => l.any (wrongB L.length)))

theorem wrong_calls (n : Nat) (B : Nat) (x : Int) (w : World) (hc : w.cell? ⟨B, 0, none⟩ = some (.int .i64 n)) :
    Calls Tryd.prog 109 (#[.int .i64 x] ++ #[.pointer (some ⟨B, 0, none⟩)]) w fun e w' => e = .returned (.bool (wrongB n x)) ∧ Below w.heap.size w w' := by
  by_cases h : x < 0
  · have h1 : decide (x < 0) = true := by simpa using h
    go_enter Tryd.func109, Tryd.ntmps109
    go_wp2
    repeat (go_quiet (fail); try go_wp2)
    go_ret
    exact ⟨by simp [wrongB, h], by repeat (first | exact Below.refl _ _ | apply pw_below_drewN | apply below_drew1)⟩
  · have h1 : decide (x < 0) = false := by simpa using h
    go_enter Tryd.func109, Tryd.ntmps109
    go_wp2
    repeat (go_quiet (fail); try go_wp2)
    go_ret
    exact ⟨by simp [wrongB, show ¬ x < 0 from by omega], by repeat (first | exact Below.refl _ _ | apply pw_below_drewN | apply below_drew1)⟩

theorem wrongs_calls (n : Nat) (B B2 : Nat) (A : Option Addr) (c : Nat) (l : List Int) (w : World) (hr : Kd.C kI w A l.length l) (hB : B < w.heap.size) (hc : w.cell? ⟨B, 0, none⟩ = some (.int .i64 n))
    (hc2 : w.cell? ⟨B2, 0, none⟩ = some (.func (.func 109) #[] #[.pointer (some ⟨B, 0, none⟩)])) :
    Calls Tryd.prog 110 (#[.slice A l.length c] ++ #[.pointer (some ⟨B2, 0, none⟩)]) w fun e w' => e = .returned (.bool (l.any (wrongB n))) ∧ Below w.heap.size w w' := by
  have HC := Aside0.mk (containsFunc_int 109 #[.pointer (some ⟨B, 0, none⟩)] (enters_of Tryd.func109 (by kernel_rfl) rfl) (wrongB n) A c l w hr
    (fun W x hb _ => wrong_calls n B x W ((hb.cell (p := ⟨B, 0, none⟩) hB).trans hc)))
  clear hr
  go_enter Tryd.func110, Tryd.ntmps110
  go_wp2_with fail
  refine HC.out.mono ?_
  rintro e w' ⟨rfl, hb'⟩
  go_wp2_with fail
  go_ret
  exact ⟨rfl, hb'⟩

set_option maxHeartbeats 1000000 in
theorem placed_calls (A0 : Option Addr) (c0 : Nat) (L : LL) (A1 : Option Addr) (c1 : Nat) (F : List Int) (A2 : Option Addr) (c2 : Nat) (La : List Int) (A3 : Option Addr) (c3 : Nat) (Fo : LL) (b : Bool) (w : World)
    (h0 : Kd.C kL w A0 L.length L ∧ L.length ≤ c0) (h1 : Kd.C kI w A1 F.length F ∧ F.length ≤ c1) (h2 : Kd.C kI w A2 La.length La ∧ La.length ≤ c2) (h3 : Kd.C kL w A3 Fo.length Fo ∧ Fo.length ≤ c3) (hlen : Fo.length < 5000000000000) :
    Calls Tryd.prog 74 #[.agg #[.slice A0 L.length c0, .slice A1 F.length c1, .slice A2 La.length c2, .slice A3 Fo.length c3, .bool b]] w fun e w' => e = .returned (.bool (placedB L F La Fo)) ∧ Below w.heap.size w w' := by
  have hu := Tryd.underlying42
  have H0 := Aside0.mk h0
  have H1 := Aside0.mk h1
  have H2 := Aside0.mk h2
  have H3 := Aside0.mk h3
  clear h0 h1 h2 h3
  by_cases hl : Fo.length = L.length
  · have hb1 : ((Fo.length : Int) == (L.length : Int)) = true := by rw [hl]; simp
    have hb2 : (Fo.length == L.length) = true := by rw [hl]; simp
    have HL := Aside0.mk hl
    have HN := Aside0.mk hlen
    clear hl hlen
    go_enter Tryd.func74, Tryd.ntmps74
    go_wp2_with fail
    have hbW := fun (o1 o2 o3 : Obj) => (below_alloc (below_alloc (below_alloc (Below.refl w.heap.size w) o1) o2) o3)
    refine (places_all.calls A0 c0 L (fun _ => True) A1 c1 F (fun _ => True) A2 c2 La (fun _ => True) A3 c3 Fo b (F :: La :: Fo) _ (Kd.C_below H0.out.1 (hbW _ _ _)) H0.out.2
      ⟨_, _, rfl, H1.out.2, Kd.F_mono (Kd.C_F (Kd.heap_int .i64) (Kd.C_below H1.out.1 (hbW _ _ _))) (fun _ _ => trivial)⟩
      ⟨_, _, rfl, H2.out.2, Kd.F_mono (Kd.C_F (Kd.heap_int .i64) (Kd.C_below H2.out.1 (hbW _ _ _))) (fun _ _ => trivial)⟩
      ⟨_, _, rfl, H3.out.2, Kd.F_mono (Kd.C_F (Kd.heap_slice 3 (Kd.heap_int .i64)) (Kd.C_below H3.out.1 (hbW _ _ _))) (fun _ _ => trivial)⟩
      (by unfold places_all.f; simp only [Option.bind_some]; rw [if_pos (by have := HN.out; simp; omega)]; rfl)).mono ?_
    rintro e w1 ⟨v, rfl, hv, hb⟩
    obtain ⟨Av, cv, rfl, hv1, hv2⟩ := Kd.N_reads hv
    obtain ⟨hc, hf⟩ := bcell hb
    have hz : w.heap.size + 1 + 1 < w1.heap.size := by have := hb.size; simp at this; omega
    have HB := Aside0.mk (below_step (hbW _ _ _) hb)
    have HV := Aside0.mk hv2
    clear hb hv hv1 hv2
    go_wp2_with fail
    refine (containsFunc_list 110 #[.pointer (some ⟨w.heap.size + 1 + 1, 0, none⟩)] (enters_of Tryd.func110 (by kernel_rfl) rfl) (fun l => l.any (wrongB L.length)) Av cv (F :: La :: Fo) w1 HV.out
      (fun W x A' c' hb hx hC hcx => wrongs_calls L.length (w.heap.size + 1) (w.heap.size + 1 + 1) A' c' x W hC (by have := hb.size; omega)
        ((hb.cell (p := ⟨w.heap.size + 1, 0, none⟩) (by show w.heap.size + 1 < _; omega)).trans ((hc (w.heap.size + 1) 0 (by simp)).trans (by go_simp)))
        ((hb.cell (p := ⟨w.heap.size + 1 + 1, 0, none⟩) hz).trans ((hc (w.heap.size + 1 + 1) 0 (by simp)).trans (by go_simp))))).mono ?_
    rintro e w2 ⟨rfl, hb⟩
    have HB2 := Aside0.mk (below_step HB.out hb)
    clear hb
    have hP : Aside0 (placedB L F La Fo = !((F :: La :: Fo).any (fun l => l.any (wrongB L.length)))) := ⟨by simp [placedB, HL.out]⟩
    generalize ((F :: La :: Fo).any (fun l => l.any (wrongB L.length))) = q at hP
    go_wp2_with fail
    go_ret
    exact ⟨by rw [hP.out]; rfl, HB2.out⟩
  · have hb1 : ((Fo.length : Int) == (L.length : Int)) = false := by simp; omega
    have hb2 : (Fo.length == L.length) = false := by simpa using hl
    have hP : Aside0 (placedB L F La Fo = false) := ⟨by simp [placedB, hl]⟩
    clear hl hlen
    go_enter Tryd.func74, Tryd.ntmps74
    go_wp2
    repeat (go_quiet (fail); try go_wp2)
    go_ret
    exact ⟨by rw [hP.out]; rfl, by repeat (first | exact Below.refl _ _ | apply pw_below_drewN | apply below_drew1 | apply below_alloc)⟩
end Go.Proofs.YtfonajakaimnoaaDoor.C11
