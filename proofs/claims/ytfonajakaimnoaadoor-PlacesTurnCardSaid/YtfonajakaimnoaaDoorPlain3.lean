/- PlacesTurn, the plain side: what is matched, turned round. -/
import Derived.Test.YtfonajakaimnoaaDoorPlain2
namespace Go.Proofs.YtfonajakaimnoaaDoor.C11
open Go.RowKit Go.Proofs.YtfonajakaimnoaaDoorW.PrintWords Go.Proofs.YtfonajakaimnoaaDoorW.PrintLast Go.Proofs.YtfonajakaimnoaaDoorW.PrintMore Go.Proofs.YtfonajakaimnoaaDoor.Lib Lent Go.Proofs.YtfonajakaimnoaaDoor.Fn
set_option linter.unusedVariables false
set_option linter.unusedSimpArgs false

theorem any_isB (c : Int) (l : List Int) : l.any (isB c) = true ↔ c ∈ l := by
  rw [List.any_eq_true]
  constructor
  · rintro ⟨x, hx, h⟩
    have : c = x := by simpa [isB] using h
    rw [this]; exact hx
  · exact fun h => ⟨c, h, by simp [isB]⟩
theorem getD_set (l : List Bool) (z q : Nat) (v : Bool) (hz : z < l.length) : (l.set z v).getD q false = if q = z then v else l.getD q false := by
  rw [List.getD_eq_getElem?_getD]
  by_cases h : q = z
  · subst h
    rw [List.getElem?_set_self hz, if_pos rfl]; rfl
  · rw [List.getElem?_set_ne (fun e => h e.symm), if_neg h, List.getD_eq_getElem?_getD]
theorem reachL_get (L : LL) (c : Int) : ∀ (l : List Int) (next : List Bool), (∀ x ∈ l, 0 ≤ x ∧ x < (next.length : Int)) → ∀ q : Nat,
    ((reachL L c next l).getD q false = true ↔ next.getD q false = true ∨ ((q : Int) ∈ l ∧ c ∈ L.getD q [])) := by
  intro l
  induction l with
  | nil => intro next _ q; simp [reachL]
  | cons z r ih =>
    intro next hb q
    have hz := hb z List.mem_cons_self
    obtain ⟨z, rfl⟩ := Int.eq_ofNat_of_zero_le hz.1
    have hzl : z < next.length := by omega
    have := ih (hit L c next (z : Int)) (fun x hx => by rw [hit_length]; exact hb x (List.mem_cons_of_mem _ hx)) q
    show (reachL L c (hit L c next (z : Int)) r).getD q false = true ↔ _
    rw [this]
    have hh : (hit L c next (z : Int)).getD q false = if q = z then (next.getD z false || (L.getD z []).any (isB c)) else next.getD q false := getD_set next z q _ hzl
    rw [hh]
    by_cases h : q = z
    · subst h
      rw [if_pos rfl, Bool.or_eq_true, any_isB]
      constructor
      · rintro ((h1 | h1) | h1)
        · exact .inl h1
        · exact .inr ⟨List.mem_cons_self, h1⟩
        · exact .inr ⟨List.mem_cons_of_mem _ h1.1, h1.2⟩
      · rintro (h1 | h1)
        · exact .inl (.inl h1)
        · exact .inl (.inr h1.2)
    · rw [if_neg h]
      constructor
      · rintro (h1 | h1)
        · exact .inl h1
        · exact .inr ⟨List.mem_cons_of_mem _ h1.1, h1.2⟩
      · rintro (h1 | ⟨h1, h2⟩)
        · exact .inl h1
        · rcases List.mem_cons.1 h1 with e | e
          · exact absurd (by omega) h
          · exact .inr ⟨e, h2⟩
theorem inK_get (L Fo : LL) (c : Int) (now next : List Bool) (hb : ∀ l ∈ Fo, ∀ x ∈ l, 0 ≤ x ∧ x < (next.length : Int)) : ∀ (k q : Nat),
    ((inK L Fo c now next k).getD q false = true ↔ next.getD q false = true ∨ ∃ p, p < k ∧ now.getD p false = true ∧ (q : Int) ∈ Fo.getD p [] ∧ c ∈ L.getD q []) := by
  intro k
  induction k with
  | zero => intro q; simp [inK]
  | succ k ih =>
    intro q
    have hrow : ∀ x ∈ Fo.getD k [], 0 ≤ x ∧ x < ((inK L Fo c now next k).length : Int) := fun x hx => by
      rw [inK_length]
      rcases getD_mem_or Fo k with e | e
      · rw [e] at hx; cases hx
      · exact hb _ e x hx
    by_cases h : now.getD k false = true
    · rw [inK_step L Fo c now next k true h]
      simp only [if_true]
      rw [reachL_get L c _ _ hrow, ih]
      constructor
      · rintro ((h1 | ⟨p, h1, h2⟩) | h1)
        · exact .inl h1
        · exact .inr ⟨p, by omega, h2⟩
        · exact .inr ⟨k, by omega, h, h1⟩
      · rintro (h1 | ⟨p, h1, h2, h3⟩)
        · exact .inl (.inl h1)
        · by_cases e : p = k
          · subst e; exact .inr h3
          · exact .inl (.inr ⟨p, by omega, h2, h3⟩)
    · rw [inK_step L Fo c now next k false (by simpa using h)]
      simp only [Bool.false_eq_true, if_false]
      rw [ih]
      constructor
      · rintro (h1 | ⟨p, h1, h2⟩)
        · exact .inl h1
        · exact .inr ⟨p, by omega, h2⟩
      · rintro (h1 | ⟨p, h1, h2, h3⟩)
        · exact .inl h1
        · by_cases e : p = k
          · subst e; exact absurd h2 h
          · exact .inr ⟨p, by omega, h2, h3⟩
theorem getD_lt {l : List Bool} {q : Nat} (h : l.getD q false = true) : q < l.length := by
  rw [List.getD_eq_getElem?_getD] at h
  cases e : l[q]? with
  | none => rw [e] at h; cases h
  | some v => exact (List.getElem?_eq_some_iff.1 e).1
theorem rep_get (n q : Nat) : (List.replicate n false).getD q false = false := by
  rw [List.getD_eq_getElem?_getD, List.getElem?_replicate]
  split <;> rfl
/-- a way through places -/
def Way (L : LL) (F : List Int) (Fo : LL) (w : List Int) (k q : Nat) : Prop :=
  ∃ f : Nat → Nat, (f 0 : Int) ∈ F ∧ f k = q ∧ (∀ i, i ≤ k → w.getD i 0 ∈ L.getD (f i) []) ∧ ∀ i, i < k → (f (i + 1) : Int) ∈ Fo.getD (f i) []
theorem atK_way {L : LL} {F La : List Int} {Fo : LL} (h : Good L F La Fo) (w : List Int) : ∀ k q, ((atK L F Fo w (k + 1)).getD q false = true ↔ Way L F Fo w k q) := by
  intro k
  induction k with
  | zero =>
    intro q
    show (inK L Fo (w.getD 0 0) (List.replicate L.length false) (begin L (w.getD 0 0) F 0) L.length).getD q false = true ↔ _
    rw [inK_get L Fo _ _ _ (fun l hl x hx => by rw [begin_length]; exact (h.fo l hl).2 x hx)]
    have hb : (begin L (w.getD 0 0) F 0).getD q false = true ↔ ((q : Int) ∈ F ∧ w.getD 0 0 ∈ L.getD q []) := by
      show (reachL L (w.getD 0 0) (List.replicate L.length false) F).getD q false = true ↔ _
      rw [reachL_get L _ _ _ (fun x hx => by rw [List.length_replicate]; exact h.f.2 x hx), rep_get]
      simp
    rw [hb]
    constructor
    · rintro (⟨h1, h2⟩ | ⟨p, h1, h2, _⟩)
      · exact ⟨fun _ => q, h1, rfl, fun i hi => by rw [show i = 0 by omega]; exact h2, fun i hi => by omega⟩
      · rw [rep_get] at h2; cases h2
    · rintro ⟨f, h1, h2, h3, _⟩
      subst h2
      exact .inl ⟨h1, h3 0 (Nat.le_refl _)⟩
  | succ k ih =>
    intro q
    show (inK L Fo (w.getD (k + 1) 0) (atK L F Fo w (k + 1)) (begin L (w.getD (k + 1) 0) F (k + 1)) L.length).getD q false = true ↔ _
    rw [inK_get L Fo _ _ _ (fun l hl x hx => by rw [begin_length]; exact (h.fo l hl).2 x hx)]
    have hb : (begin L (w.getD (k + 1) 0) F (k + 1)).getD q false = false := by
      unfold begin
      rw [if_neg (by omega)]
      exact rep_get _ _
    rw [hb]
    constructor
    · rintro (h1 | ⟨p, h1, h2, h3, h4⟩)
      · cases h1
      · obtain ⟨f, f1, f2, f3, f4⟩ := (ih p).1 h2
        refine ⟨fun i => if i ≤ k then f i else q, ?_, ?_, fun i hi => ?_, fun i hi => ?_⟩
        · simp only [Nat.zero_le, if_true]; exact f1
        · simp only [show ¬ k + 1 ≤ k by omega, if_false]
        · by_cases e : i ≤ k
          · simp only [e, if_true]; exact f3 i e
          · simp only [e, if_false]; rw [show i = k + 1 by omega]; exact h4
        · by_cases e : i + 1 ≤ k
          · simp only [e, show i ≤ k by omega, if_true]; exact f4 i (by omega)
          · have : i = k := by omega
            subst this
            simp only [show ¬ i + 1 ≤ i by omega, if_false, Nat.le_refl, if_true]
            rw [f2]; exact h3
    · rintro ⟨f, f1, f2, f3, f4⟩
      have hw : Way L F Fo w k (f k) := ⟨f, f1, rfl, fun i hi => f3 i (by omega), fun i hi => f4 i (by omega)⟩
      have := (ih (f k)).2 hw
      refine .inr ⟨f k, ?_, this, ?_, ?_⟩
      · have := getD_lt this; rwa [atK_length] at this
      · rw [← f2]; exact f4 k (by omega)
      · rw [← f2]; exact f3 (k + 1) (Nat.le_refl _)
theorem match_way {L : LL} {F La : List Int} {Fo : LL} (h : Good L F La Fo) (b : Bool) (w : List Int) (m : Nat) (hw : w.length = m + 1) :
    (matchB L F La Fo b w = true ↔ ∃ f : Nat → Nat, (f 0 : Int) ∈ F ∧ (f m : Int) ∈ La ∧ (∀ i, i ≤ m → w.getD i 0 ∈ L.getD (f i) []) ∧ ∀ i, i < m → (f (i + 1) : Int) ∈ Fo.getD (f i) []) := by
  unfold matchB
  rw [h.placed, Bool.true_and, if_neg (by omega), List.any_eq_true, hw]
  constructor
  · rintro ⟨q, hq, h1⟩
    obtain ⟨f, f1, f2, f3, f4⟩ := (atK_way h w m q.toNat).1 h1
    refine ⟨f, f1, ?_, f3, f4⟩
    rw [f2, Int.toNat_of_nonneg (h.la.2 q hq).1]
    exact hq
  · rintro ⟨f, f1, f2, f3, f4⟩
    exact ⟨(f m : Int), f2, (atK_way h w m (f m)).2 ⟨f, f1, rfl, f3, f4⟩⟩
theorem rev_get (w : List Int) (m : Nat) (hw : w.length = m + 1) (i : Nat) (hi : i ≤ m) : w.reverse.getD i 0 = w.getD (m - i) 0 := by
  rw [List.getD_eq_getElem?_getD, List.getD_eq_getElem?_getD, List.getElem?_reverse (by omega), show w.length - 1 - i = m - i by omega]
theorem match_turn {L : LL} {F La : List Int} {Fo : LL} (h : Good L F La Fo) (b : Bool) (w : List Int) : matchB L La F (turnK Fo L.length L.length) b w.reverse = matchB L F La Fo b w := by
  cases hm : w.length with
  | zero =>
    unfold matchB
    rw [h.placed, h.turn.placed, if_pos (by rw [List.length_reverse]; exact hm), if_pos hm]
  | succ m =>
    have key : ∀ y x : Nat, ((x : Int) ∈ (turnK Fo L.length L.length).getD y [] ↔ x < L.length ∧ (y : Int) ∈ Fo.getD x []) := fun y x => (turnK_spec Fo L.length h.fo L.length (Nat.le_refl _) y).2 x
    have hlt : ∀ x y : Nat, (y : Int) ∈ Fo.getD x [] → x < L.length := fun x y hy => by
      rcases Nat.lt_or_ge x Fo.length with e | e
      · have := h.t1; omega
      · rw [List.getD_eq_getElem?_getD, List.getElem?_eq_none e] at hy; cases hy
    rw [Bool.eq_iff_iff, match_way h.turn b w.reverse m (by rw [List.length_reverse]; exact hm), match_way h b w m hm]
    constructor
    · rintro ⟨g, g1, g2, g3, g4⟩
      refine ⟨fun i => g (m - i), by simpa using g2, by simpa using g1, fun i hi => ?_, fun i hi => ?_⟩
      · have := g3 (m - i) (by omega)
        rw [rev_get w m hm _ (by omega), show m - (m - i) = i by omega] at this
        exact this
      · have := g4 (m - (i + 1)) (by omega)
        rw [show m - (i + 1) + 1 = m - i by omega] at this
        exact ((key _ _).1 this).2
    · rintro ⟨f, f1, f2, f3, f4⟩
      refine ⟨fun i => f (m - i), by simpa using f2, by simpa using f1, fun i hi => ?_, fun i hi => ?_⟩
      · rw [rev_get w m hm i hi]
        exact f3 (m - i) (by omega)
      · have := f4 (m - (i + 1)) (by omega)
        rw [show m - (i + 1) + 1 = m - i by omega] at this
        exact (key _ _).2 ⟨hlt _ _ this, this⟩
/-- all that the walk asks -/
theorem plain_of {L : LL} {F La : List Int} {Fo : LL} (h : Good L F La Fo) (b : Bool) (ws : List Int) (hw : ws.length ≤ 20) : ∃ ks, Plain L F La Fo b ws ws.reverse ks (ws.length + 1) := by
  have h8 := h.s8
  have h1 := h.t1
  have hF := h.f.len
  have hLa := h.la.len
  have hT := turnK_length Fo L.length L.length
  have hs : Ev (fun k => caesuraref0_SamePositions.f k L F La (turnK (turnK Fo L.length L.length) L.length L.length) b L F La Fo b) true := by
    rw [turn_twice Fo L.length h1 h.fo]
    exact same_ev L F La Fo b (by omega) (fun x hx => by have := h.lrow x hx; omega) (by omega) (by omega) (by omega) (fun x hx => by have := h.frow x hx; omega)
  obtain ⟨ks, hks⟩ := hs.rounds
  have e1 := tot_le 8 Fo h.frow Fo.length
  have e2 := tot_le 8 (turnK Fo L.length L.length) h.turn.frow (turnK Fo L.length L.length).length
  have e3 := h.tl
  have e4 := h.tf
  have e5 := h.turn.tf
  exact ⟨ks, h8, by omega, h1, hT, by omega, by omega, fun l hl => by have := h.lrow l hl; omega, by omega, by omega, by omega, by omega, by omega, h.ok, h.turn.ok, h.check, h.turn.check, hks, back_eq ws hw, match_turn h b ws⟩
end Go.Proofs.YtfonajakaimnoaaDoor.C11
