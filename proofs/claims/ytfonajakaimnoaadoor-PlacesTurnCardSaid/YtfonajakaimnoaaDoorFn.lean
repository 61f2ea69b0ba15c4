/- slices.IndexFunc and ContainsFunc at numbers and at lists of numbers, slices.Clone: whatever the function that is handed in, as long as it answers a plain predicate and turns nothing that was there. -/
import Derived.Test.YtfonajakaimnoaaDoorLib0
import Derived.Test.YtfonajakaimnoaaDoorLent
namespace Go.Proofs.YtfonajakaimnoaaDoor.Fn
open Go.RowKit Go.Proofs.YtfonajakaimnoaaDoorW.PrintWords Go.Proofs.YtfonajakaimnoaaDoorW.PrintLast Go.Proofs.YtfonajakaimnoaaDoorW.PrintMore Go.Proofs.YtfonajakaimnoaaDoor.Lib Lent

/-- the place of the first of which p holds, or -1 -/
def idx {α : Type} (p : α → Bool) : List α → Int
  | [] => -1
  | x :: r => if p x then 0 else (if idx p r < 0 then -1 else idx p r + 1)
theorem idx_any {α : Type} (p : α → Bool) (l : List α) : decide (idx p l ≥ 0) = l.any p := by
  induction l with
  | nil => rfl
  | cons x r ih =>
    simp only [idx, List.any_cons]
    by_cases h : p x = true
    · simp [h]
    · simp only [h, Bool.false_eq_true, if_false, Bool.false_or]
      rw [← ih]
      by_cases h2 : idx p r < 0
      · simp [h2]
      · simp only [h2, if_false]
        simp only [show idx p r + 1 ≥ 0 from by omega, show idx p r ≥ 0 from by omega]
theorem idx_hit {α : Type} (p : α → Bool) (l : List α) (k : Nat) (x : α) (hk : l[k]? = some x) (hx : p x = true) (h : ∀ (j : Nat) (y : α), j < k → l[j]? = some y → p y = false) : idx p l = k := by
  induction l generalizing k with
  | nil => simp at hk
  | cons y r ih =>
    cases k with
    | zero =>
      simp only [List.getElem?_cons_zero, Option.some.injEq] at hk
      subst hk
      simp [idx, hx]
    | succ k =>
      have h0 := h 0 y (by omega) rfl
      have := ih k (by simpa using hk) (fun j z hj hz => h (j + 1) z (by omega) (by simpa using hz))
      simp only [idx, h0, Bool.false_eq_true, if_false, this]
      rw [if_neg (by omega)]
      rfl
theorem idx_miss {α : Type} (p : α → Bool) (l : List α) (h : ∀ (j : Nat) (y : α), l[j]? = some y → p y = false) : idx p l = -1 := by
  induction l with
  | nil => rfl
  | cons y r ih =>
    have h0 := h 0 y rfl
    have := ih (fun j z hz => h (j + 1) z (by simpa using hz))
    simp only [idx, h0, Bool.false_eq_true, if_false, this]
    rfl

theorem int_at {w : World} {A : Option Addr} {n : Nat} {xs : List Int} (h : Kd.C (Kd.int .i64) w A n xs) (j : Nat) (x : Int) (hj : xs[j]? = some x) : ∃ ad, A = some ad ∧ w.cell? (ad.add j) = some (.int .i64 x) := by
  obtain ⟨ad, c, e, hK, hu⟩ := C_nth h j x hj
  obtain rfl : c = [.int .i64 x] := hK
  have := hu 0 _ rfl
  rw [show j * (Kd.int .i64).sz + 0 = j from Nat.mul_one _] at this
  exact ⟨ad, e, this⟩
theorem list_at {w : World} {A : Option Addr} {n : Nat} {xs : List (List Int)} (h : Kd.C (Kd.slice 3 (Kd.int .i64)) w A n xs) (j : Nat) (x : List Int) (hj : xs[j]? = some x) : ∃ ad A' c', A = some ad ∧ w.cell? (ad.add j) = some (.slice A' x.length c') ∧ x.length ≤ c' ∧ Kd.C (Kd.int .i64) w A' x.length x := by
  obtain ⟨ad, c, e, ⟨A', c', rfl, h1, h2⟩, hu⟩ := C_nth h j x hj
  have := hu 0 _ rfl
  rw [show j * (Kd.slice 3 (Kd.int .i64)).sz + 0 = j from Nat.mul_one _] at this
  exact ⟨ad, A', c', e, this, h1, h2⟩

set_option maxHeartbeats 1000000 in
theorem indexFunc_int (g : Nat) (lb : Array Value) (eg : ∀ args w, (callFunc g args).run Tryd.prog w = .ok (.enter g args) w) (p : Int → Bool) (A : Option Addr) (c : Nat) (l : List Int) (w : World)
    (hr : Kd.C (Kd.int .i64) w A l.length l) (hp : ∀ (W : World) (x : Int), Below w.heap.size w W → x ∈ l → Calls Tryd.prog g (#[.int .i64 x] ++ lb) W fun e w' => e = .returned (.bool (p x)) ∧ Below W.heap.size W w') :
    Calls Tryd.prog 112 #[.slice A l.length c, .func (.func g) #[] lb] w fun e w' => e = .returned (.int .i64 (idx p l)) ∧ Below w.heap.size w w' := by
  have hbig := C_bound hr
  have HR := Aside0.mk hr
  have HP := Aside0.mk hp
  clear hr hp
  go_enter Tryd.func112, Tryd.ntmps112
  go_wp2
  go_loopg [5, 8] l.length (fun gg _ s8 wr => ∃ kk : Nat, kk ≤ l.length ∧ l.length - kk ≤ gg ∧ s8 = .int .i64 kk ∧ Aside0 (Below w.heap.size w wr) ∧ Aside0 (∀ (j : Nat) (y : Int), j < kk → l[j]? = some y → p y = false))
  case atStart => exact ⟨0, Nat.zero_le _, by omega, rfl, ⟨Below.refl _ w⟩, ⟨fun j y hj => absurd hj (Nat.not_lt_zero _)⟩⟩
  case round =>
    obtain ⟨kk, hkk, hg, rfl, BW, AA⟩ := hrel
    by_cases hlt : kk < l.length
    · have hltz : (kk : Int) < (l.length : Int) := by omega
      obtain ⟨ad, rfl, hcell⟩ := int_at (Kd.C_below HR.out BW.out) kk l[kk] (List.getElem?_eq_getElem hlt)
      have hcall := Aside0.mk (HP.out wr l[kk] BW.out (List.getElem_mem hlt))
      have hy : Aside0 (l[kk]? = some l[kk]) := ⟨List.getElem?_eq_getElem hlt⟩
      generalize l[kk] = y at hcell hcall hy
      cases hq : p y with
      | true =>
        have HQ := Aside0.mk hq
        rw [hq] at hcall
        clear hq
        go_wp2_with fail
        refine hcall.out.mono ?_
        rintro e w' ⟨rfl, hb'⟩
        go_wp2_with fail
        go_ret
        exact ⟨by rw [idx_hit p l kk y hy.out HQ.out AA.out]; rfl, below_step BW.out hb'⟩
      | false =>
        have HQ := Aside0.mk hq
        rw [hq] at hcall
        clear hq
        go_wp2_with fail
        refine hcall.out.mono ?_
        rintro e w' ⟨rfl, hb'⟩
        go_wp2_with fail
        go_roundg (l.length - (kk + 1))
        case measure => omega
        case rel =>
          refine ⟨kk + 1, by omega, by omega, by go_num, ⟨below_step BW.out hb'⟩, ⟨fun j z hj hz => ?_⟩⟩
          by_cases e : j = kk
          · subst e
            rw [hy.out] at hz
            cases hz
            exact HQ.out
          · exact AA.out j z (by omega) hz
    · have hltz : ¬ (kk : Int) < (l.length : Int) := by omega
      have : kk = l.length := by omega
      subst this
      go_wp2
      go_ret
      exact ⟨by rw [idx_miss p l (fun j y hj => AA.out j y (List.getElem?_eq_some_iff.1 hj).1 hj)]; rfl, BW.out⟩

set_option maxHeartbeats 1000000 in
theorem containsFunc_int (g : Nat) (lb : Array Value) (eg : ∀ args w, (callFunc g args).run Tryd.prog w = .ok (.enter g args) w) (p : Int → Bool) (A : Option Addr) (c : Nat) (l : List Int) (w : World)
    (hr : Kd.C (Kd.int .i64) w A l.length l) (hp : ∀ (W : World) (x : Int), Below w.heap.size w W → x ∈ l → Calls Tryd.prog g (#[.int .i64 x] ++ lb) W fun e w' => e = .returned (.bool (p x)) ∧ Below W.heap.size W w') :
    Calls Tryd.prog 77 #[.slice A l.length c, .func (.func g) #[] lb] w fun e w' => e = .returned (.bool (l.any p)) ∧ Below w.heap.size w w' := by
  have HC := Aside0.mk (indexFunc_int g lb eg p A c l w hr hp)
  clear hr hp
  go_enter Tryd.func77, Tryd.ntmps77
  go_wp2_with fail
  refine HC.out.mono ?_
  rintro e w' ⟨rfl, hb'⟩
  go_wp2_with fail
  go_ret
  exact ⟨by rw [← idx_any]; rfl, hb'⟩

set_option maxHeartbeats 1000000 in
theorem indexFunc_list (g : Nat) (lb : Array Value) (eg : ∀ args w, (callFunc g args).run Tryd.prog w = .ok (.enter g args) w) (p : List Int → Bool) (A : Option Addr) (c : Nat) (l : List (List Int)) (w : World)
    (hr : Kd.C (Kd.slice 3 (Kd.int .i64)) w A l.length l) (hp : ∀ (W : World) (x : List Int) (A' : Option Addr) (c' : Nat), Below w.heap.size w W → x ∈ l → Kd.C (Kd.int .i64) W A' x.length x → x.length ≤ c' → Calls Tryd.prog g (#[.slice A' x.length c'] ++ lb) W fun e w' => e = .returned (.bool (p x)) ∧ Below W.heap.size W w') :
    Calls Tryd.prog 113 #[.slice A l.length c, .func (.func g) #[] lb] w fun e w' => e = .returned (.int .i64 (idx p l)) ∧ Below w.heap.size w w' := by
  have hbig := C_bound hr
  have HR := Aside0.mk hr
  have HP := Aside0.mk hp
  clear hr hp
  go_enter Tryd.func113, Tryd.ntmps113
  go_wp2
  go_loopg [5, 8] l.length (fun gg _ s8 wr => ∃ kk : Nat, kk ≤ l.length ∧ l.length - kk ≤ gg ∧ s8 = .int .i64 kk ∧ Aside0 (Below w.heap.size w wr) ∧ Aside0 (∀ (j : Nat) (y : List Int), j < kk → l[j]? = some y → p y = false))
  case atStart => exact ⟨0, Nat.zero_le _, by omega, rfl, ⟨Below.refl _ w⟩, ⟨fun j y hj => absurd hj (Nat.not_lt_zero _)⟩⟩
  case round =>
    obtain ⟨kk, hkk, hg, rfl, BW, AA⟩ := hrel
    by_cases hlt : kk < l.length
    · have hltz : (kk : Int) < (l.length : Int) := by omega
      obtain ⟨ad, A', c', rfl, hcell, h1, h2⟩ := list_at (Kd.C_below HR.out BW.out) kk l[kk] (List.getElem?_eq_getElem hlt)
      have hcall := Aside0.mk (HP.out wr l[kk] A' c' BW.out (List.getElem_mem hlt) h2 h1)
      clear h1 h2
      have hy : Aside0 (l[kk]? = some l[kk]) := ⟨List.getElem?_eq_getElem hlt⟩
      generalize l[kk] = y at hcell hcall hy
      cases hq : p y with
      | true =>
        have HQ := Aside0.mk hq
        rw [hq] at hcall
        clear hq
        go_wp2_with fail
        refine hcall.out.mono ?_
        rintro e w' ⟨rfl, hb'⟩
        go_wp2_with fail
        go_ret
        exact ⟨by rw [idx_hit p l kk y hy.out HQ.out AA.out]; rfl, below_step BW.out hb'⟩
      | false =>
        have HQ := Aside0.mk hq
        rw [hq] at hcall
        clear hq
        go_wp2_with fail
        refine hcall.out.mono ?_
        rintro e w' ⟨rfl, hb'⟩
        go_wp2_with fail
        go_roundg (l.length - (kk + 1))
        case measure => omega
        case rel =>
          refine ⟨kk + 1, by omega, by omega, by go_num, ⟨below_step BW.out hb'⟩, ⟨fun j z hj hz => ?_⟩⟩
          by_cases e : j = kk
          · subst e
            rw [hy.out] at hz
            cases hz
            exact HQ.out
          · exact AA.out j z (by omega) hz
    · have hltz : ¬ (kk : Int) < (l.length : Int) := by omega
      have : kk = l.length := by omega
      subst this
      go_wp2
      go_ret
      exact ⟨by rw [idx_miss p l (fun j y hj => AA.out j y (List.getElem?_eq_some_iff.1 hj).1 hj)]; rfl, BW.out⟩

set_option maxHeartbeats 1000000 in
theorem containsFunc_list (g : Nat) (lb : Array Value) (eg : ∀ args w, (callFunc g args).run Tryd.prog w = .ok (.enter g args) w) (p : List Int → Bool) (A : Option Addr) (c : Nat) (l : List (List Int)) (w : World)
    (hr : Kd.C (Kd.slice 3 (Kd.int .i64)) w A l.length l) (hp : ∀ (W : World) (x : List Int) (A' : Option Addr) (c' : Nat), Below w.heap.size w W → x ∈ l → Kd.C (Kd.int .i64) W A' x.length x → x.length ≤ c' → Calls Tryd.prog g (#[.slice A' x.length c'] ++ lb) W fun e w' => e = .returned (.bool (p x)) ∧ Below W.heap.size W w') :
    Calls Tryd.prog 79 #[.slice A l.length c, .func (.func g) #[] lb] w fun e w' => e = .returned (.bool (l.any p)) ∧ Below w.heap.size w w' := by
  have HC := Aside0.mk (indexFunc_list g lb eg p A c l w hr hp)
  clear hr hp
  go_enter Tryd.func79, Tryd.ntmps79
  go_wp2_with fail
  refine HC.out.mono ?_
  rintro e w' ⟨rfl, hb'⟩
  go_wp2_with fail
  go_ret
  exact ⟨by rw [← idx_any]; rfl, hb'⟩
end Go.Proofs.YtfonajakaimnoaaDoor.Fn
