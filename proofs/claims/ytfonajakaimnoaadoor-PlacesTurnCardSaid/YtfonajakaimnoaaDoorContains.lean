/- slices.Index and Contains at numbers: the world stays as it is. -/
import Derived.Test.YtfonajakaimnoaaDoorFn
namespace Go.Proofs.YtfonajakaimnoaaDoor.Fn
open Go.RowKit Go.Proofs.YtfonajakaimnoaaDoorW.PrintWords Go.Proofs.YtfonajakaimnoaaDoorW.PrintLast Go.Proofs.YtfonajakaimnoaaDoorW.PrintMore Go.Proofs.YtfonajakaimnoaaDoor.Lib Lent
attribute [local go_sem] max2_int min2_int max_two min_two max_three min_three max_four min_four

def isB (x : Int) (y : Int) : Bool := decide (x = y)
set_option maxHeartbeats 1000000 in
theorem index_calls (x : Int) (A : Option Addr) (c : Nat) (l : List Int) (w : World) (hr : Kd.C (Kd.int .i64) w A l.length l) :
    Calls Tryd.prog 111 #[.slice A l.length c, .int .i64 x] w fun e w' => e = .returned (.int .i64 (idx (isB x) l)) ∧ w = w' := by
  have hbig := C_bound hr
  have HR := Aside0.mk hr
  clear hr
  go_enter Tryd.func111, Tryd.ntmps111
  go_wp2
  go_loopg [5, 8] l.length (fun gg _ s8 wr => ∃ kk : Nat, kk ≤ l.length ∧ l.length - kk ≤ gg ∧ s8 = .int .i64 kk ∧ w = wr ∧ Aside0 (∀ (j : Nat) (y : Int), j < kk → l[j]? = some y → isB x y = false))
  case atStart => exact ⟨0, Nat.zero_le _, by omega, rfl, rfl, ⟨fun j y hj => absurd hj (Nat.not_lt_zero _)⟩⟩
  case round =>
    obtain ⟨kk, hkk, hg, rfl, rfl, AA⟩ := hrel
    by_cases hlt : kk < l.length
    · have hltz : (kk : Int) < (l.length : Int) := by omega
      obtain ⟨ad, rfl, hcell⟩ := int_at HR.out kk l[kk] (List.getElem?_eq_getElem hlt)
      have hy : Aside0 (l[kk]? = some l[kk]) := ⟨List.getElem?_eq_getElem hlt⟩
      generalize l[kk] = y at hcell hy
      by_cases hq : x = y
      · have HQ : Aside0 (isB x y = true) := ⟨by simp [isB, hq]⟩
        have hb : (x == y) = true := by simpa using hq
        clear hq
        go_wp2
        go_ret
        exact ⟨by rw [idx_hit (isB x) l kk y hy.out HQ.out AA.out]; rfl, rfl⟩
      · have HQ : Aside0 (isB x y = false) := ⟨by simp [isB, hq]⟩
        have hb : (x == y) = false := by simpa using hq
        clear hq
        go_wp2
        go_roundg (l.length - (kk + 1))
        case measure => omega
        case rel =>
          refine ⟨kk + 1, by omega, by omega, by go_num, rfl, ⟨fun j z hj hz => ?_⟩⟩
          by_cases e : j = kk
          · subst e
            rw [hy.out] at hz
            cases hz
            exact HQ.out
          · exact AA.out j z (by omega) hz
    · have hltz : ¬ (kk : Int) < (l.length : Int) := by omega
      have : kk = l.length := by omega
      subst this
      go_wp2
      go_ret
      exact ⟨by rw [idx_miss (isB x) l (fun j y hj => AA.out j y (List.getElem?_eq_some_iff.1 hj).1 hj)]; rfl, rfl⟩
theorem contains_calls (x : Int) (A : Option Addr) (c : Nat) (l : List Int) (w : World) (hr : Kd.C (Kd.int .i64) w A l.length l) :
    Calls Tryd.prog 76 #[.slice A l.length c, .int .i64 x] w fun e w' => e = .returned (.bool (l.any (isB x))) ∧ w = w' := by
  have HC := Aside0.mk (index_calls x A c l w hr)
  clear hr
  go_enter Tryd.func76, Tryd.ntmps76
  go_wp2_with fail
  refine HC.out.mono ?_
  rintro e w' ⟨rfl, rfl⟩
  go_wp2_with fail
  go_ret
  exact ⟨by rw [← idx_any]; rfl, rfl⟩
end Go.Proofs.YtfonajakaimnoaaDoor.Fn
