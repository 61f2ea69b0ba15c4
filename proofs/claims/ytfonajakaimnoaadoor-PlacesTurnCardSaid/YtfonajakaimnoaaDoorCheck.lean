/- places.Check: which error it answers. -/
import Derived.Test.YtfonajakaimnoaaDoorPlaced
import Derived.Test.YtfonajakaimnoaaDoorLib28
import Derived.Test.YtfonajakaimnoaaDoorLib27
namespace Go.Proofs.YtfonajakaimnoaaDoor.C11
open Go.RowKit Go.Proofs.YtfonajakaimnoaaDoorW.PrintWords Go.Proofs.YtfonajakaimnoaaDoorW.PrintLast Go.Proofs.YtfonajakaimnoaaDoorW.PrintMore Go.Proofs.YtfonajakaimnoaaDoor.Lib Lent Go.Proofs.YtfonajakaimnoaaDoor.Fn Go.Shelf
attribute [local go_sem] max2_int min2_int max_two min_two max_three min_three max_four min_four

/-- rises from above a number to below another one -/
def risesB (n : Int) (last : Int) : List Int → Bool
  | [] => true
  | x :: r => !decide (x ≤ last) && (!decide (x ≥ n) && risesB n x r)
def total (L : LL) : Nat := (L.map List.length).sum
def small (L : LL) : Bool := decide (L.length > 4000)
def manyB (L Fo : LL) : Bool := decide (L.length > 4000) || (decide (total L > 4194304) || decide (total Fo > 1048576))
def okB (L : LL) (F La : List Int) (Fo : LL) (s : Int) : Bool := decide (s ≥ 1) && (decide (s ≤ 16384) && (decide (Fo.length = L.length) && (risesB L.length (-1) F && (risesB L.length (-1) La && (L.all (risesB s (-1)) && Fo.all (risesB L.length (-1)))))))
/-- what is asked ahead of the lists of lists -/
def preB (L : LL) (F La : List Int) (Fo : LL) (s : Int) : Bool := decide (s ≥ 1) && (decide (s ≤ 16384) && (decide (Fo.length = L.length) && (risesB L.length (-1) F && risesB L.length (-1) La)))
/-- the number of the refusal: 0 none, 1 ErrArg, 3 ErrMany -/
def checkC (L : LL) (F La : List Int) (Fo : LL) (s : Int) : Nat := if manyB L Fo then 3 else if okB L F La Fo s then 0 else 1

theorem wrap_succ {i : Int} {n : Nat} (h0 : 0 ≤ i) (h : i < (n : Int)) (hn : n ≤ 9223372036854775807) : wrap64 (i + 1) = i + 1 := by
  unfold wrap64
  omega
theorem drop_at {α : Type} {xs : List α} {i : Nat} (h : i < xs.length) (d : α) : xs.drop i = xs.getD i d :: xs.drop (i + 1) := by
  rw [List.drop_eq_getElem_cons h, List.getD_eq_getElem?_getD, List.getElem?_eq_getElem h]
  rfl
theorem all_snoc {α : Type} (xs : List α) (f : α → Bool) (k : Nat) (x : α) (h : xs[k]? = some x) : (xs.take (k + 1)).all f = ((xs.take k).all f && f x) := by
  rw [List.take_add_one, h, List.all_append]
  simp
theorem rises_loop (n : Int) (xs : List Int) (hn : xs.length ≤ 9223372036854775807) (d : Nat) : ∀ (k : Nat) (i last : Int), 0 ≤ i → i ≤ xs.length → (xs.length : Int) - i = d → d < k →
    places_rises.l0 k n last xs (xs.length : Int) i = some (risesB n last (xs.drop i.toNat)) := by
  induction d with
  | zero =>
    intro k i last h0 h1 hd hk
    obtain ⟨k, rfl⟩ : ∃ m, k = m + 1 := ⟨k - 1, by omega⟩
    simp only [places_rises.l0]
    rw [if_neg (by omega), List.drop_eq_nil_of_le (by omega)]
    rfl
  | succ d ih =>
    intro k i last h0 h1 hd hk
    obtain ⟨k, rfl⟩ : ∃ m, k = m + 1 := ⟨k - 1, by omega⟩
    have hlt : i < (xs.length : Int) := by omega
    have hnat : i.toNat < xs.length := by omega
    simp only [places_rises.l0]
    rw [if_pos hlt, if_pos h0, if_pos hlt, wrap_succ h0 hlt hn, ih k (i + 1) _ (by omega) (by omega) (by omega) (by omega), drop_at hnat 0, show (i + 1).toNat = i.toNat + 1 by omega]
    have hr : rd xs i = xs.getD i.toNat 0 := rfl
    rw [hr]
    simp only [risesB]
    generalize (xs.getD i.toNat 0 : Int) = x
    by_cases h1 : x ≤ last <;> by_cases h2 : x ≥ n <;> simp [h1, h2]
theorem rises_eq (n : Int) (xs : List Int) (hn : xs.length ≤ 9223372036854775807) {k : Nat} (hk : xs.length < k) : places_rises.f k xs n = some (risesB n (-1) xs) := by
  unfold places_rises.f
  rw [rises_loop n xs hn xs.length k 0 (-1) (by omega) (by omega) (by omega) hk]
  rfl
theorem count_loop (L : LL) (hn : L.length ≤ 1000000000) (d : Nat) : ∀ (k : Nat) (i s : Int), 0 ≤ i → i ≤ L.length → (L.length : Int) - i = d → d < k → 0 ≤ s → s + (total (L.drop i.toNat) : Int) ≤ 9223372036854775807 →
    places_count.l0 k s L (L.length : Int) i = some (s + (total (L.drop i.toNat) : Int)) := by
  induction d with
  | zero =>
    intro k i s h0 h1 hd hk h2 h3
    obtain ⟨k, rfl⟩ : ∃ m, k = m + 1 := ⟨k - 1, by omega⟩
    simp only [places_count.l0]
    rw [if_neg (by omega), List.drop_eq_nil_of_le (by omega)]
    simp [total]
  | succ d ih =>
    intro k i s h0 h1 hd hk h2 h3
    obtain ⟨k, rfl⟩ : ∃ m, k = m + 1 := ⟨k - 1, by omega⟩
    have hlt : i < (L.length : Int) := by omega
    have hnat : i.toNat < L.length := by omega
    have hs : (i + 1).toNat = i.toNat + 1 := by omega
    rw [drop_at hnat []] at h3 ⊢
    simp only [total, List.map_cons, List.sum_cons] at h3 ⊢
    simp only [places_count.l0]
    rw [if_pos hlt, if_pos h0, if_pos hlt, wrap_succ h0 hlt (by omega)]
    have hr : rd_L1 L i = L.getD i.toNat [] := rfl
    rw [hr]
    have hw : wrap64 (s + ((L.getD i.toNat []).length : Int)) = s + ((L.getD i.toNat []).length : Int) := by unfold wrap64; omega
    rw [hw, ih k (i + 1) _ (by omega) (by omega) (by omega) (by omega) (by omega) (by rw [hs]; simp only [total]; omega), hs]
    simp only [total]
    congr 1
    omega
theorem count_eq (L : LL) (hn : L.length ≤ 1000000000) (ht : total L ≤ 9223372036854775807) {k : Nat} (hk : L.length < k) : places_count.f k L = some (total L : Int) := by
  unfold places_count.f
  rw [count_loop L hn L.length k 0 0 (by omega) (by omega) (by omega) hk (by omega) (by simp; omega)]
  simp

/-- the error of a number, out of these two -/
def errMA (eM eA : Value) (c : Nat) : Value := if c = 3 then eM else if c = 1 then eA else .nilIface

set_option maxHeartbeats 2000000 in
set_option maxRecDepth 100000 in
theorem check_calls (A0 : Option Addr) (c0 : Nat) (L : LL) (A1 : Option Addr) (c1 : Nat) (F : List Int) (A2 : Option Addr) (c2 : Nat) (La : List Int) (A3 : Option Addr) (c3 : Nat) (Fo : LL) (b : Bool) (s : Int) (eM eA : Value) (w : World)
    (h0 : Kd.C kL w A0 L.length L ∧ L.length ≤ c0) (h1 : Kd.C kI w A1 F.length F ∧ F.length ≤ c1) (h2 : Kd.C kI w A2 La.length La ∧ La.length ≤ c2) (h3 : Kd.C kL w A3 Fo.length Fo ∧ Fo.length ≤ c3)
    (hl : L.length ≤ 1000000000) (hf : Fo.length ≤ 1000000000) (htl : total L ≤ 9223372036854775807) (htf : total Fo ≤ 9223372036854775807)
    (hM : w.cell? ⟨2, 0, none⟩ = some eM) (hA : w.cell? ⟨0, 0, none⟩ = some eA) :
    Calls Tryd.prog 22 #[.agg #[.slice A0 L.length c0, .slice A1 F.length c1, .slice A2 La.length c2, .slice A3 Fo.length c3, .bool b], .int .i64 s] w fun e w' => e = .returned (errMA eM eA (checkC L F La Fo s)) ∧ Below w.heap.size w w' := by
  have hu := Tryd.underlying42
  have H0 := Aside0.mk h0
  have H1 := Aside0.mk h1
  have H2 := Aside0.mk h2
  have H3 := Aside0.mk h3
  have HL := Aside0.mk hl
  have HF := Aside0.mk hf
  have HTL := Aside0.mk htl
  have HTF := Aside0.mk htf
  clear h0 h1 h2 h3 hl hf htl htf
  have hM' := cell_alloc hM
  have hA' := cell_alloc hA
  clear hM hA
  have K0 := Aside0.mk (fun (W : World) (hb : Below w.heap.size w W) => (places_count.calls (L.length + Fo.length + 1) A0 c0 L (total L : Int) W (Kd.C_below H0.out.1 hb) H0.out.2 (count_eq L HL.out HTL.out (by omega))))
  have K3 := Aside0.mk (fun (W : World) (hb : Below w.heap.size w W) => (places_count.calls (L.length + Fo.length + 1) A3 c3 Fo (total Fo : Int) W (Kd.C_below H3.out.1 hb) H3.out.2 (count_eq Fo HF.out HTF.out (by omega))))
  have R1 := Aside0.mk (fun (W : World) (hb : Below w.heap.size w W) => places_rises.calls (F.length + 1) A1 c1 F L.length (risesB L.length (-1) F) W (Kd.C_below H1.out.1 hb) H1.out.2 (rises_eq L.length F (C_bound H1.out.1) (by omega)))
  have R2 := Aside0.mk (fun (W : World) (hb : Below w.heap.size w W) => places_rises.calls (La.length + 1) A2 c2 La L.length (risesB L.length (-1) La) W (Kd.C_below H2.out.1 hb) H2.out.2 (rises_eq L.length La (C_bound H2.out.1) (by omega)))
  by_cases hm : L.length > 4000
  · have hb1 : decide ((4000 : Int) < (L.length : Int)) = true := by simp; omega
    have hb2 : decide (4000 < L.length) = true := by simpa using hm
    have hr : Aside0 (checkC L F La Fo s = 3) := ⟨by simp [checkC, manyB, hm]⟩
    clear hm
    go_enter Tryd.func22, Tryd.ntmps22
    go_wp2
    go_ret
    exact ⟨by rw [hr.out]; rfl, by repeat (first | exact Below.refl _ _ | apply pw_below_drewN | apply below_drew1 | apply below_alloc)⟩
  · have hb1 : decide ((4000 : Int) < (L.length : Int)) = false := by simp; omega
    have hb2 : decide (4000 < L.length) = false := by simpa using hm
    have HM1 := Aside0.mk hm
    clear hm
    have hbl := fun (o : Obj) => below_alloc (Below.refl w.heap.size w) o
    go_enter Tryd.func22, Tryd.ntmps22
    go_wp2_with fail
    refine (K0.out _ (hbl _)).mono ?_
    rintro e w1 ⟨rfl, ⟨⟨n1, rfl⟩⟩⟩
    by_cases hm2 : total L > 4194304
    · have hb3 : decide ((4194304 : Int) < (total L : Int)) = true := by simp; omega
      have hr : Aside0 (checkC L F La Fo s = 3) := ⟨by simp [checkC, manyB, hm2]⟩
      clear hm2
      go_wp2
      go_ret
      exact ⟨by rw [hr.out]; rfl, by repeat (first | exact Below.refl _ _ | apply pw_below_drewN | apply below_drew1 | apply below_alloc)⟩
    · have hb3 : decide ((4194304 : Int) < (total L : Int)) = false := by simp; omega
      have HM2 := Aside0.mk hm2
      clear hm2
      go_wp2_with fail
      refine (K3.out _ (pw_below_drewN (hbl _) _)).mono ?_
      rintro e w1 ⟨rfl, ⟨⟨n2, rfl⟩⟩⟩
      by_cases hm3 : total Fo > 1048576
      · have hb4 : decide ((1048576 : Int) < (total Fo : Int)) = true := by simp; omega
        have hr : Aside0 (checkC L F La Fo s = 3) := ⟨by simp [checkC, manyB, hm3]⟩
        clear hm3
        go_wp2
        go_ret
        exact ⟨by rw [hr.out]; rfl, by repeat (first | exact Below.refl _ _ | apply pw_below_drewN | apply below_drew1 | apply below_alloc)⟩
      · have hb4 : decide ((1048576 : Int) < (total Fo : Int)) = false := by simp; omega
        have hr : Aside0 (checkC L F La Fo s = if okB L F La Fo s then 0 else 1) := ⟨by simp [checkC, manyB, HM1.out, HM2.out, hm3]⟩
        clear hm3
        go_upto_region 3 with fail
        go_cut [5] (fun v5 wc => v5 = .bool (preB L F La Fo s) ∧ Aside0 (∃ n, wc = (w.alloc (.cells #[.slice A0 L.length c0, .slice A1 F.length c1, .slice A2 La.length c2, .slice A3 Fo.length c3, .bool b] 42)).drewN n))
        case first =>
          by_cases q1 : s ≥ 1
          · have b1 : decide ((1 : Int) ≤ s) = true := by simpa using q1
            by_cases q2 : s ≤ 16384
            · have b2 : decide (s ≤ (16384 : Int)) = true := by simpa using q2
              by_cases q3 : Fo.length = L.length
              · have b3 : ((Fo.length : Int) == (L.length : Int)) = true := by rw [q3]; simp
                have b4 : (Fo.length == L.length) = true := by rw [q3]; simp
                have Q := Aside0.mk (And.intro q1 (And.intro q2 q3))
                clear q1 q2 q3
                go_wp2_with fail
                refine (R1.out _ (pw_below_drewN (hbl _) _)).mono ?_
                rintro e w1 ⟨rfl, ⟨⟨n3, rfl⟩⟩⟩
                cases hr1 : risesB L.length (-1) F with
                | true =>
                  have QR1 := Aside0.mk hr1
                  clear hr1
                  go_wp2_with fail
                  refine (R2.out _ (pw_below_drewN (hbl _) _)).mono ?_
                  rintro e w1 ⟨rfl, ⟨⟨n4, rfl⟩⟩⟩
                  have hp : Aside0 (preB L F La Fo s = risesB L.length (-1) La) := ⟨by simp [preB, Q.out.1, Q.out.2.1, Q.out.2.2, QR1.out]⟩
                  go_wp2_with fail
                  go_meet
                  exact ⟨by rw [hp.out], ⟨_, rfl⟩⟩
                | false =>
                  have hp : Aside0 (preB L F La Fo s = false) := ⟨by simp [preB, hr1]⟩
                  clear hr1
                  go_wp2_with fail
                  go_meet
                  exact ⟨by rw [hp.out], ⟨_, rfl⟩⟩
              · have b3 : ((Fo.length : Int) == (L.length : Int)) = false := by simp; omega
                have b4 : (Fo.length == L.length) = false := by simpa using q3
                have hp : Aside0 (preB L F La Fo s = false) := ⟨by simp [preB, q3]⟩
                clear q3
                go_wp2_with fail
                go_meet
                exact ⟨by rw [hp.out], ⟨_, rfl⟩⟩
            · have b2 : decide (s ≤ (16384 : Int)) = false := by simpa using q2
              have hp : Aside0 (preB L F La Fo s = false) := ⟨by simp [preB, q2]⟩
              clear q2
              go_wp2_with fail
              go_meet
              exact ⟨by rw [hp.out], ⟨_, rfl⟩⟩
          · have b1 : decide ((1 : Int) ≤ s) = false := by simpa using q1
            have hp : Aside0 (preB L F La Fo s = false) := ⟨by simp [preB, q1]⟩
            clear q1
            go_wp2_with fail
            go_meet
            exact ⟨by rw [hp.out], ⟨_, rfl⟩⟩
        case rest =>
          obtain ⟨rfl, ⟨n3, rfl⟩⟩ := hcut
          have HP : Aside0 (checkC L F La Fo s = if preB L F La Fo s && ((L.take L.length).all (risesB s (-1)) && (Fo.take Fo.length).all (risesB L.length (-1))) then 0 else 1) := ⟨by
            rw [hr.out, List.take_length, List.take_length]
            simp [okB, preB, Bool.and_assoc]⟩
          clear hr
          generalize preB L F La Fo s = pre at HP
          go_wp2_with fail
          go_loopg [5, 61] L.length (fun gg v5 v61 wr => ∃ (kk : Nat) (q : Bool), kk ≤ L.length ∧ L.length - kk ≤ gg ∧ v61 = .int .i64 kk ∧ v5 = .bool q ∧ Aside0 (q = (pre && (L.take kk).all (risesB s (-1)))) ∧ Aside0 (∃ n, wr = (w.alloc (.cells #[.slice A0 L.length c0, .slice A1 F.length c1, .slice A2 La.length c2, .slice A3 Fo.length c3, .bool b] 42)).drewN n))
          case atStart => exact ⟨0, pre, Nat.zero_le _, by omega, rfl, rfl, ⟨by simp⟩, ⟨_, rfl⟩⟩
          case round =>
            obtain ⟨kk, q, hkk, hg, rfl, rfl, HQ, ⟨n4, rfl⟩⟩ := hrel
            have hbig := HL.out
            by_cases hlt : kk < L.length
            · have hltz : (kk : Int) < (L.length : Int) := by omega
              obtain ⟨ad, A', c', rfl, hcell, h1, h2⟩ := list_at (Kd.C_below H0.out.1 (pw_below_drewN (hbl (.cells #[.slice A0 L.length c0, .slice A1 F.length c1, .slice A2 La.length c2, .slice A3 Fo.length c3, .bool b] 42)) n4)) kk L[kk] (List.getElem?_eq_getElem hlt)
              have hy : Aside0 (L[kk]? = some L[kk]) := ⟨List.getElem?_eq_getElem hlt⟩
              have hyl := C_bound h2
              have KR := Aside0.mk (places_rises.calls (L[kk].length + 1) A' c' L[kk] s (risesB s (-1) L[kk]) _ h2 h1 (rises_eq s L[kk] hyl (by omega)))
              clear h1 h2 hyl
              generalize L[kk] = y at hcell hy KR
              cases q with
              | true =>
                go_wp2_with fail
                refine KR.out.mono ?_
                rintro e w1 ⟨rfl, ⟨⟨n5, rfl⟩⟩⟩
                go_wp2_with fail
                go_roundg (L.length - (kk + 1))
                case measure => omega
                case rel => exact ⟨kk + 1, _, by omega, by omega, by go_num, rfl, ⟨by rw [all_snoc L _ kk y hy.out, ← Bool.and_assoc, ← HQ.out, Bool.true_and]⟩, ⟨_, rfl⟩⟩
              | false =>
                go_wp2_with fail
                go_roundg (L.length - (kk + 1))
                case measure => omega
                case rel => exact ⟨kk + 1, false, by omega, by omega, by go_num, rfl, ⟨by rw [all_snoc L _ kk y hy.out, ← Bool.and_assoc, ← HQ.out, Bool.false_and]⟩, ⟨_, rfl⟩⟩
            · have hltz : ¬ (kk : Int) < (L.length : Int) := by omega
              have hkk2 : kk = L.length := by omega
              have HQ2 : Aside0 (q = (pre && (L.take L.length).all (risesB s (-1)))) := ⟨by rw [HQ.out, hkk2]⟩
              have hltd : decide ((kk : Int) < (L.length : Int)) = false := by simpa using hltz
              clear hkk2 HQ hlt hbig
              go_wp2_with fail
              go_loopg [5, 75] Fo.length (fun gg v5 v75 wr => ∃ (kk : Nat) (q2 : Bool), kk ≤ Fo.length ∧ Fo.length - kk ≤ gg ∧ v75 = .int .i64 kk ∧ v5 = .bool q2 ∧ Aside0 (q2 = (q && (Fo.take kk).all (risesB L.length (-1)))) ∧ Aside0 (∃ n, wr = (w.alloc (.cells #[.slice A0 L.length c0, .slice A1 F.length c1, .slice A2 La.length c2, .slice A3 Fo.length c3, .bool b] 42)).drewN n))
              case atStart => exact ⟨0, q, Nat.zero_le _, by omega, rfl, rfl, ⟨by simp⟩, ⟨_, rfl⟩⟩
              case round =>
                obtain ⟨kk2, q2, hkk3, hg2, rfl, rfl, HQ3, ⟨n5, rfl⟩⟩ := hrel
                have hbig := HF.out
                by_cases hlt : kk2 < Fo.length
                · have hltz2 : (kk2 : Int) < (Fo.length : Int) := by omega
                  obtain ⟨ad, A', c', rfl, hcell, h1, h2⟩ := list_at (Kd.C_below H3.out.1 (pw_below_drewN (hbl (.cells #[.slice A0 L.length c0, .slice A1 F.length c1, .slice A2 La.length c2, .slice A3 Fo.length c3, .bool b] 42)) n5)) kk2 Fo[kk2] (List.getElem?_eq_getElem hlt)
                  have hy : Aside0 (Fo[kk2]? = some Fo[kk2]) := ⟨List.getElem?_eq_getElem hlt⟩
                  have hyl := C_bound h2
                  have KR := Aside0.mk (fun W (hb : Below _ _ W) => places_rises.calls (Fo[kk2].length + 1) A' c' Fo[kk2] L.length (risesB L.length (-1) Fo[kk2]) W (Kd.C_below h2 hb) h1 (rises_eq L.length Fo[kk2] hyl (by omega)))
                  clear h1 h2 hyl
                  generalize Fo[kk2] = y at hcell hy KR
                  cases q2 with
                  | true =>
                    go_wp2_with fail
                    refine (KR.out _ (by repeat (first | exact Below.refl _ _ | apply pw_below_drewN | apply below_drew1))).mono ?_
                    rintro e w1 ⟨rfl, ⟨⟨n6, rfl⟩⟩⟩
                    go_wp2_with fail
                    go_roundg (Fo.length - (kk2 + 1))
                    case measure => omega
                    case rel => exact ⟨kk2 + 1, _, by omega, by omega, by go_num, rfl, ⟨by rw [all_snoc Fo _ kk2 y hy.out, ← Bool.and_assoc, ← HQ3.out, Bool.true_and]⟩, ⟨_, rfl⟩⟩
                  | false =>
                    go_wp2_with fail
                    go_roundg (Fo.length - (kk2 + 1))
                    case measure => omega
                    case rel => exact ⟨kk2 + 1, false, by omega, by omega, by go_num, rfl, ⟨by rw [all_snoc Fo _ kk2 y hy.out, ← Bool.and_assoc, ← HQ3.out, Bool.false_and]⟩, ⟨_, rfl⟩⟩
                · have hltz2 : ¬ (kk2 : Int) < (Fo.length : Int) := by omega
                  have hfin : Aside0 (checkC L F La Fo s = if q2 then 0 else 1) := ⟨by
                    rw [HP.out, HQ3.out, HQ2.out, show kk2 = Fo.length by omega, Bool.and_assoc]⟩
                  have hltd2 : decide ((kk2 : Int) < (Fo.length : Int)) = false := by simpa using hltz2
                  clear hlt hbig HQ3 HQ2
                  cases q2 with
                  | true =>
                    go_wp2
                    go_ret
                    exact ⟨by rw [hfin.out]; rfl, by repeat (first | exact Below.refl _ _ | apply pw_below_drewN | apply below_drew1 | apply below_alloc)⟩
                  | false =>
                    go_wp2
                    go_ret
                    exact ⟨by rw [hfin.out]; rfl, by repeat (first | exact Below.refl _ _ | apply pw_below_drewN | apply below_drew1 | apply below_alloc)⟩
end Go.Proofs.YtfonajakaimnoaaDoor.C11
