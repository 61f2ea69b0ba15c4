/- PlacesTurn, the plain side: what tidy, some, back, SameInts, SameRows come to. -/
import Derived.Test.YtfonajakaimnoaaDoorTurnWalk
namespace Go.Proofs.YtfonajakaimnoaaDoor.C11
open Go.RowKit Go.Proofs.YtfonajakaimnoaaDoorW.PrintWords Go.Proofs.YtfonajakaimnoaaDoorW.PrintLast Go.Proofs.YtfonajakaimnoaaDoorW.PrintMore Go.Proofs.YtfonajakaimnoaaDoor.Lib Lent Go.Proofs.YtfonajakaimnoaaDoor.Fn
set_option linter.unusedVariables false
set_option linter.unusedSimpArgs false

/-- a list that rises, of numbers from 0 to below n -/
def Rz (n : Int) (l : List Int) : Prop := l.Pairwise (· < ·) ∧ ∀ x ∈ l, 0 ≤ x ∧ x < n
theorem pick_some (a n : Int) : ∃ v, caesurakit_Pick.f a n = some v := by
  unfold caesurakit_Pick.f
  split
  · exact ⟨_, rfl⟩
  · rw [if_neg (by omega)]
    split <;> exact ⟨_, rfl⟩
theorem some_l1 (X : List Int) (n x6 : Int) (hX : X.length ≤ 9223372036854775807) (x5 : List Int) (h5 : x5.length < 17592186044416) : ∀ (d : Nat) (i : Nat) (x7 : Bool), i ≤ X.length → X.length - i = d →
    ∃ f : Bool, ∀ k, caesuralaw11_some.l1 (k + d + 1) X n x5 x6 x7 i = if f then caesuralaw11_some.l0 k X n (x5 ++ [x6]) (wrap64 (x6 + 1)) else caesuralaw11_some.l0 k X n x5 (wrap64 (x6 + 1)) := by
  intro d
  induction d with
  | zero =>
    intro i x7 hi hd
    refine ⟨x7, fun k => ?_⟩
    simp only [caesuralaw11_some.l1, Nat.add_zero]
    rw [if_neg (by omega)]
    cases x7
    · rw [if_neg (by decide), if_neg (by decide)]
    · rw [if_pos rfl, if_pos rfl, if_pos h5]
  | succ d ih =>
    intro i x7 hi hd
    have hw : wrap64 ((i : Int) + 1) = ((i + 1 : Nat) : Int) := by rw [wrap_succ (n := X.length) (by omega) (by omega) (by omega)]; omega
    cases x7 with
    | true =>
      obtain ⟨f, hf⟩ := ih (i + 1) true (by omega) (by omega)
      refine ⟨f, fun k => ?_⟩
      rw [← hf k]
      rw [show k + (d + 1) + 1 = (k + d + 1) + 1 by omega]
      conv => lhs; unfold caesuralaw11_some.l1
      rw [if_pos (by omega), if_pos rfl, hw]
    | false =>
      obtain ⟨v, hv⟩ := pick_some (rd X i) n
      obtain ⟨f, hf⟩ := ih (i + 1) (v == x6) (by omega) (by omega)
      refine ⟨f, fun k => ?_⟩
      rw [← hf k]
      rw [show k + (d + 1) + 1 = (k + d + 1) + 1 by omega]
      conv => lhs; unfold caesuralaw11_some.l1
      rw [if_pos (by omega), if_neg (by decide), if_pos (by omega), hv, Option.bind_some, hw]
theorem some_l0 (X : List Int) (n : Int) (hn : n ≤ 64) (hX : X.length ≤ 9223372036854775807) : ∀ (m : Nat) (x6 : Int) (x5 : List Int), 0 ≤ x6 → n - x6 = m → x5.Pairwise (· < ·) → (∀ x ∈ x5, 0 ≤ x ∧ x < x6) → x5.length ≤ x6.toNat →
    ∃ r, Rz n r ∧ ∀ e, caesuralaw11_some.l0 (m * (X.length + 2) + 1 + e) X n x5 x6 = some r := by
  intro m
  induction m with
  | zero =>
    intro x6 x5 h0 hm hp hb hl
    refine ⟨x5, ⟨hp, fun x hx => ⟨(hb x hx).1, by have := (hb x hx).2; omega⟩⟩, fun e => ?_⟩
    rw [show 0 * (X.length + 2) + 1 + e = e + 1 by omega]
    simp only [caesuralaw11_some.l0]
    rw [if_neg (by omega)]
  | succ m ih =>
    intro x6 x5 h0 hm hp hb hl
    have hw : wrap64 (x6 + 1) = x6 + 1 := by unfold wrap64; omega
    obtain ⟨f, hf⟩ := some_l1 X n x6 hX x5 (by omega) X.length 0 false (Nat.zero_le _) (by omega)
    have h1 := ih (x6 + 1) (if f then x5 ++ [x6] else x5) (by omega) (by omega)
      (by
        split
        · exact List.pairwise_append.2 ⟨hp, List.pairwise_singleton _ _, fun a ha c hc => by rw [List.mem_singleton.1 hc]; exact (hb a ha).2⟩
        · exact hp)
      (by
        split
        · intro x hx
          rcases List.mem_append.1 hx with hx | hx
          · have := hb x hx; omega
          · rw [List.mem_singleton.1 hx]; omega
        · intro x hx; have := hb x hx; omega)
      (by
        cases f
        · show x5.length ≤ _
          omega
        · show (x5 ++ [x6]).length ≤ _
          simp only [List.length_append, List.length_singleton]
          omega)
    obtain ⟨r, hr, he⟩ := h1
    refine ⟨r, hr, fun e => ?_⟩
    rw [← he e]
    rw [show (m + 1) * (X.length + 2) + 1 + e = ((m * (X.length + 2) + 1 + e) + X.length + 1) + 1 by rw [Nat.succ_mul]; omega]
    conv => lhs; unfold caesuralaw11_some.l0
    rw [if_pos (by omega)]
    have := hf (m * (X.length + 2) + 1 + e)
    rw [show ((0 : Nat) : Int) = 0 from rfl] at this
    rw [this, hw]
    cases f <;> rfl
theorem some_ev (X : List Int) (n : Int) (h0 : 0 ≤ n) (hn : n ≤ 64) (hX : X.length ≤ 9223372036854775807) : ∃ r, Rz n r ∧ Ev (fun k => caesuralaw11_some.f k X n) r := by
  obtain ⟨r, hr, he⟩ := some_l0 X n hn hX n.toNat 0 [] (Int.le_refl _) (by omega) List.Pairwise.nil (fun x hx => by cases hx) (Nat.zero_le _)
  refine ⟨r, hr, n.toNat * (X.length + 2) + 1, fun k hk => ?_⟩
  have := he (k - (n.toNat * (X.length + 2) + 1))
  rw [show n.toNat * (X.length + 2) + 1 + (k - (n.toNat * (X.length + 2) + 1)) = k by omega] at this
  exact this
structure Good (L : LL) (F La : List Int) (Fo : LL) : Prop where
  s8 : L.length ≤ 8
  t1 : Fo.length = L.length
  l : ∀ x ∈ L, Rz 4 x
  f : Rz L.length F
  la : Rz L.length La
  fo : ∀ x ∈ Fo, Rz L.length x
theorem tidy_l0 (X0 : LL) (X1 X2 : List Int) (X3 : LL) (b : Bool) (n : Nat) (hn : n ≤ 8) (hn0 : n ≤ X0.length) (hX0 : ∀ x ∈ X0, x.length ≤ 9223372036854775807) (hX3 : ∀ x ∈ X3, x.length ≤ 9223372036854775807) (F La : List Int) :
    ∀ (m i : Nat) (aL aF : LL), i + m = n → aL.length = i → aF.length = i → (∀ x ∈ aL, Rz 4 x) → (∀ x ∈ aF, Rz n x) →
    ∃ L Fo, L.length = n ∧ Fo.length = n ∧ (∀ x ∈ L, Rz 4 x) ∧ (∀ x ∈ Fo, Rz n x) ∧ Ev (fun k => caesuralaw11_tidy.l0 k n i X0 X1 X2 X3 b aL F La aF b) (L, F, La, Fo, b) := by
  intro m
  induction m with
  | zero =>
    intro i aL aF hi h1 h2 h3 h4
    refine ⟨aL, aF, by omega, by omega, h3, h4, ?_⟩
    refine Ev.step (f := fun _ => some (aL, F, La, aF, b)) (fun k => ?_) (Ev.now _)
    simp only [caesuralaw11_tidy.l0]
    rw [if_neg (by omega)]
  | succ m ih =>
    intro i aL aF hi h1 h2 h3 h4
    have hw : wrap64 ((i : Int) + 1) = ((i + 1 : Nat) : Int) := by unfold wrap64; omega
    have hr : ∀ (Y : LL), (∀ x ∈ Y, x.length ≤ 9223372036854775807) → (rd_L1 Y (i : Int)).length ≤ 9223372036854775807 := fun Y hY => by
      unfold rd_L1
      rw [List.getD_eq_getElem?_getD]
      cases h : Y[((i : Int)).toNat]? with
      | none => simp
      | some y => exact hY y (List.mem_of_getElem? h)
    obtain ⟨r, hrz, hev⟩ := some_ev (rd_L1 X0 i) 4 (by decide) (by decide) (hr X0 hX0)
    have h3' : ∀ x ∈ aL ++ [r], Rz 4 x := fun x hx => by
      rcases List.mem_append.1 hx with hx | hx
      · exact h3 x hx
      · rw [List.mem_singleton.1 hx]; exact hrz
    by_cases hc : i < X3.length
    · obtain ⟨r2, hrz2, hev2⟩ := some_ev (rd_L1 X3 i) n (by omega) (by omega) (hr X3 hX3)
      obtain ⟨L, Fo, g1, g2, g3, g4, g5⟩ := ih (i + 1) (aL ++ [r]) (aF ++ [r2]) (by omega) (by simp [h1]) (by simp [h2]) h3' (fun x hx => by
        rcases List.mem_append.1 hx with hx | hx
        · exact h4 x hx
        · rw [List.mem_singleton.1 hx]; exact hrz2)
      refine ⟨L, Fo, g1, g2, g3, g4, ?_⟩
      refine Ev.step (f := fun k => (caesuralaw11_some.f k (rd_L1 X0 i) 4).bind fun t => (caesuralaw11_some.f k (rd_L1 X3 i) n).bind fun t2 => caesuralaw11_tidy.l0 k n ((i + 1 : Nat) : Int) X0 X1 X2 X3 b (aL ++ [t]) F La (aF ++ [t2]) b) (fun k => ?_) (Ev.bind hev (Ev.bind hev2 g5))
      conv => lhs; unfold caesuralaw11_tidy.l0
      rw [if_pos (by omega), if_pos (by omega), if_pos (by omega)]
      simp only [if_pos (show aL.length < 5864062014805 by omega), if_pos (show (i : Int) < (X3.length : Int) by omega), if_pos (show aF.length < 5864062014805 by omega), hw, Option.bind_some]
    · obtain ⟨L, Fo, g1, g2, g3, g4, g5⟩ := ih (i + 1) (aL ++ [r]) (aF ++ [[]]) (by omega) (by simp [h1]) (by simp [h2]) h3' (fun x hx => by
        rcases List.mem_append.1 hx with hx | hx
        · exact h4 x hx
        · rw [List.mem_singleton.1 hx]; exact ⟨List.Pairwise.nil, fun y hy => by cases hy⟩)
      refine ⟨L, Fo, g1, g2, g3, g4, ?_⟩
      refine Ev.step (f := fun k => (caesuralaw11_some.f k (rd_L1 X0 i) 4).bind fun t => caesuralaw11_tidy.l0 k n ((i + 1 : Nat) : Int) X0 X1 X2 X3 b (aL ++ [t]) F La (aF ++ [[]]) b) (fun k => ?_) (Ev.bind hev g5)
      conv => lhs; unfold caesuralaw11_tidy.l0
      rw [if_pos (by omega), if_pos (by omega), if_pos (by omega)]
      simp only [if_pos (show aL.length < 5864062014805 by omega), if_neg (show ¬ (i : Int) < (X3.length : Int) by omega), if_pos (show aF.length < 5864062014805 by omega), hw, Option.bind_some]
theorem tidy_ev (X0 : LL) (X1 X2 : List Int) (X3 : LL) (b : Bool) (hX0 : ∀ x ∈ X0, x.length ≤ 9223372036854775807) (hX3 : ∀ x ∈ X3, x.length ≤ 9223372036854775807) (hX1 : X1.length ≤ 9223372036854775807) (hX2 : X2.length ≤ 9223372036854775807) :
    ∃ L F La Fo, Good L F La Fo ∧ Ev (fun k => caesuralaw11_tidy.f k X0 X1 X2 X3 b) (L, F, La, Fo, b) := by
  obtain ⟨n, hn, hn8, hnl⟩ : ∃ n : Nat, mn (X0.length : Int) 8 = n ∧ n ≤ 8 ∧ n ≤ X0.length := ⟨min X0.length 8, by unfold mn; split <;> omega, by omega, by omega⟩
  obtain ⟨F, hF, eF⟩ := some_ev X1 n (by omega) (by omega) hX1
  obtain ⟨La, hLa, eLa⟩ := some_ev X2 n (by omega) (by omega) hX2
  obtain ⟨L, Fo, g1, g2, g3, g4, g5⟩ := tidy_l0 X0 X1 X2 X3 b n hn8 hnl hX0 hX3 F La n 0 [] [] (by omega) rfl rfl (fun x hx => by cases hx) (fun x hx => by cases hx)
  refine ⟨L, F, La, Fo, ⟨by omega, by omega, g3, by rw [g1]; exact hF, by rw [g1]; exact hLa, by rw [g1]; exact g4⟩, ?_⟩
  refine Ev.congr (f := fun k => (caesuralaw11_some.f k X1 n).bind fun t => (caesuralaw11_some.f k X2 n).bind fun t2 => caesuralaw11_tidy.l0 k n ((0 : Nat) : Int) X0 X1 X2 X3 b [] t t2 [] b) (fun k => ?_) (Ev.bind eF (Ev.bind eLa g5))
  unfold caesuralaw11_tidy.f
  rw [hn]
  rfl
theorem sameInts_loop (l : List Int) (hl : l.length ≤ 9223372036854775807) : ∀ (d i k : Nat), i ≤ l.length → l.length - i = d → d < k → caesuraref0_SameInts.l0 k l l i = some true := by
  intro d
  induction d with
  | zero =>
    intro i k hi hd hk
    obtain ⟨k, rfl⟩ : ∃ m, k = m + 1 := ⟨k - 1, by omega⟩
    simp only [caesuraref0_SameInts.l0]
    rw [if_neg (by omega)]
  | succ d ih =>
    intro i k hi hd hk
    obtain ⟨k, rfl⟩ : ∃ m, k = m + 1 := ⟨k - 1, by omega⟩
    have hw : wrap64 ((i : Int) + 1) = ((i + 1 : Nat) : Int) := by rw [wrap_succ (n := l.length) (by omega) (by omega) (by omega)]; omega
    simp only [caesuraref0_SameInts.l0]
    rw [if_pos (by omega), if_pos (by omega), if_pos (by omega), hw]
    simp only [if_true]
    exact ih (i + 1) k (by omega) (by omega) (by omega)
theorem sameInts_ev (l : List Int) (hl : l.length ≤ 9223372036854775807) : Ev (fun k => caesuraref0_SameInts.f k l l) true :=
  ⟨l.length + 1, fun k hk => by
    show caesuraref0_SameInts.f k l l = some true
    unfold caesuraref0_SameInts.f
    rw [if_pos rfl]
    exact sameInts_loop l hl l.length 0 k (by omega) (by omega) (by omega)⟩
theorem sameRows_loop (l : LL) (hl : l.length ≤ 9223372036854775807) (hr : ∀ x ∈ l, x.length ≤ 9223372036854775807) : ∀ (d i : Nat), i ≤ l.length → l.length - i = d → Ev (fun k => caesuraref0_SameRows.l0 k l l i) true := by
  intro d
  induction d with
  | zero =>
    intro i hi hd
    refine Ev.step (f := fun _ => some true) (fun k => ?_) (Ev.now _)
    simp only [caesuraref0_SameRows.l0]
    rw [if_neg (by omega)]
  | succ d ih =>
    intro i hi hd
    have hw : wrap64 ((i : Int) + 1) = ((i + 1 : Nat) : Int) := by rw [wrap_succ (n := l.length) (by omega) (by omega) (by omega)]; omega
    have hrow : (rd_L1 l (i : Int)).length ≤ 9223372036854775807 := by
      unfold rd_L1
      rw [List.getD_eq_getElem?_getD]
      cases h : l[((i : Int)).toNat]? with
      | none => simp
      | some y => exact hr y (List.mem_of_getElem? h)
    refine Ev.step (f := fun k => (caesuraref0_SameInts.f k (rd_L1 l i) (rd_L1 l i)).bind fun t => if t = true then caesuraref0_SameRows.l0 k l l ((i + 1 : Nat) : Int) else some false) (fun k => ?_) (Ev.bind (sameInts_ev _ hrow) (Ev.congr (fun k => if_pos rfl) (ih (i + 1) (by omega) (by omega))))
    conv => lhs; unfold caesuraref0_SameRows.l0
    rw [if_pos (by omega), if_pos (by omega), if_pos (by omega), hw]
theorem sameRows_ev (l : LL) (hl : l.length ≤ 9223372036854775807) (hr : ∀ x ∈ l, x.length ≤ 9223372036854775807) : Ev (fun k => caesuraref0_SameRows.f k l l) true :=
  Ev.congr (fun k => by unfold caesuraref0_SameRows.f; rw [if_pos rfl]; rfl) (sameRows_loop l hl hr l.length 0 (by omega) (by omega))
theorem same_ev (L : LL) (F La : List Int) (Fo : LL) (b : Bool) (h0 : L.length ≤ 9223372036854775807) (h0r : ∀ x ∈ L, x.length ≤ 9223372036854775807) (h1 : F.length ≤ 9223372036854775807) (h2 : La.length ≤ 9223372036854775807) (h3 : Fo.length ≤ 9223372036854775807) (h3r : ∀ x ∈ Fo, x.length ≤ 9223372036854775807) :
    Ev (fun k => caesuraref0_SamePositions.f k L F La Fo b L F La Fo b) true := by
  unfold caesuraref0_SamePositions.f
  refine Ev.bind (sameRows_ev L h0 h0r) (Ev.bind (sameInts_ev F h1) (Ev.bind (sameInts_ev La h2) (Ev.bind (sameRows_ev Fo h3 h3r) ?_)))
  simp only [if_true, beq_self_eq_true]
  exact Ev.now _
theorem back_loop (l : List Int) (hl : l.length ≤ 20) : ∀ (i k : Nat) (acc : List Int), i ≤ l.length → acc.length + i ≤ 20 → i < k → caesuralaw11_back.l0 k l acc ((i : Int) - 1) = some (acc ++ (l.take i).reverse) := by
  intro i
  induction i with
  | zero =>
    intro k acc h1 h2 hk
    obtain ⟨k, rfl⟩ : ∃ m, k = m + 1 := ⟨k - 1, by omega⟩
    simp only [caesuralaw11_back.l0]
    rw [if_neg (by omega)]
    simp
  | succ i ih =>
    intro k acc h1 h2 hk
    obtain ⟨k, rfl⟩ : ∃ m, k = m + 1 := ⟨k - 1, by omega⟩
    simp only [caesuralaw11_back.l0]
    have hw : wrap64 (((i + 1 : Nat) : Int) - 1 - 1) = (i : Int) - 1 := by unfold wrap64; omega
    rw [if_pos (by omega), if_pos (by omega), if_pos (by omega), if_pos (by omega), hw, ih k _ (by omega) (by simp; omega) (by omega)]
    have : rd l (((i + 1 : Nat) : Int) - 1) = l[i] := by
      unfold rd
      rw [show (((i + 1 : Nat) : Int) - 1).toNat = i by omega, List.getD_eq_getElem?_getD, List.getElem?_eq_getElem (by omega)]
      rfl
    rw [this, List.take_add_one, List.getElem?_eq_getElem (by omega)]
    simp only [Option.toList_some, List.reverse_append, List.reverse_cons, List.reverse_nil, List.nil_append, List.singleton_append, List.append_assoc]
theorem back_eq (l : List Int) (hl : l.length ≤ 20) : caesuralaw11_back.f (l.length + 1) l = some l.reverse := by
  unfold caesuralaw11_back.f
  have hw : wrap64 ((l.length : Int) - 1) = (l.length : Int) - 1 := by unfold wrap64; omega
  rw [hw, back_loop l hl l.length _ [] (Nat.le_refl _) (by simp; omega) (by omega)]
  simp
end Go.Proofs.YtfonajakaimnoaaDoor.C11
