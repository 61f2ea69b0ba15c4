/- What a set holds: the program's answer and the document's, as one Bool. -/
import Derived.Test.YtljdjgejmkbleaaPExprHoldsx2
import Derived.Test.YtljdjgejmkbleaaQ3
namespace Go.Proofs.Ytljdjgejmkbleaa.PExprHolds
open Go.RowKit Go.Proofs.YtljdjgejmkbleaaW.PrintWords Go.Proofs.YtljdjgejmkbleaaW.PrintLast Go.Proofs.YtljdjgejmkbleaaW.PrintMore

def nameIn (c : ByteArray) (n : ByteArray) : Bool := n.toList == c.toList
def rangeIn (p : Int) (r : S37) : Bool := !(decide (p = -1)) && (decide (r.f0 ≤ p) && decide (p ≤ r.f1))
def holdsB (no : Bool) (names : List ByteArray) (pts : List S37) (c : ByteArray) (p : Int) : Bool := (names.any (nameIn c) || pts.any (rangeIn p)) != no

theorem wrap_succ {i : Int} {n : Nat} (h0 : 0 ≤ i) (h : i < (n : Int)) (hn : n ≤ 9223372036854775807) : wrap64 (i + 1) = i + 1 := by
  unfold wrap64
  omega
theorem any_at {α : Type} {xs : List α} {f : α → Bool} {i : Nat} (h : i < xs.length) (d : α) : (xs.drop i).any f = (f (xs.getD i d) || (xs.drop (i + 1)).any f) := by
  rw [List.drop_eq_getElem_cons h, List.any_cons, List.getD_eq_getElem?_getD, List.getElem?_eq_getElem h]
  rfl

theorem index_loop (xs : List ByteArray) (a : ByteArray) (hn : xs.length ≤ 9223372036854775807) (d : Nat) : ∀ (k : Nat) (i : Int), 0 ≤ i → i ≤ xs.length → (xs.length : Int) - i = d → d < k →
    ∃ r, slices_Index_string_string.l0 k xs a (xs.length : Int) i = some r ∧ decide (r ≥ 0) = (xs.drop i.toNat).any (nameIn a) := by
  induction d with
  | zero =>
    intro k i h0 h1 hd hk
    obtain ⟨k, rfl⟩ : ∃ m, k = m + 1 := ⟨k - 1, by omega⟩
    refine ⟨-1, by simp only [slices_Index_string_string.l0]; rw [if_neg (by omega)], ?_⟩
    rw [List.drop_eq_nil_of_le (by omega)]
    rfl
  | succ d ih =>
    intro k i h0 h1 hd hk
    obtain ⟨k, rfl⟩ : ∃ m, k = m + 1 := ⟨k - 1, by omega⟩
    have hlt : i < (xs.length : Int) := by omega
    have hnat : i.toNat < xs.length := by omega
    simp only [slices_Index_string_string.l0]
    rw [if_pos hlt, if_pos h0, if_pos hlt, any_at hnat ByteArray.empty]
    by_cases e : a.toList = (rdOf ByteArray.empty xs i).toList
    · rw [if_pos e]
      have : nameIn a (xs.getD i.toNat ByteArray.empty) = true := by simp only [nameIn, beq_iff_eq]; exact e.symm
      exact ⟨i, rfl, by rw [this]; simp [h0]⟩
    · rw [if_neg e, wrap_succ h0 hlt hn]
      obtain ⟨r, hr, hb⟩ := ih k (i + 1) (by omega) (by omega) (by omega) (by omega)
      have : nameIn a (xs.getD i.toNat ByteArray.empty) = false := by
        simp only [nameIn, beq_eq_false_iff_ne, ne_eq]; exact fun h => e h.symm
      refine ⟨r, hr, ?_⟩
      rw [hb, this, Bool.false_or, show (i + 1).toNat = i.toNat + 1 by omega]

theorem contains_eq (xs : List ByteArray) (a : ByteArray) (hn : xs.length ≤ 9223372036854775807) {k : Nat} (hk : xs.length < k) : slices_Contains_string_string.f k xs a = some (xs.any (nameIn a)) := by
  obtain ⟨r, hr, hb⟩ := index_loop xs a hn xs.length k 0 (by omega) (by omega) (by omega) hk
  unfold slices_Contains_string_string.f slices_Index_string_string.f
  rw [hr]
  simp only [Option.bind_some]
  rw [hb]
  rfl

theorem holds_loop (pts : List S37) (no : Bool) (x1 : List ByteArray) (x2 : List S37) (c : ByteArray) (p : Int) (hn : pts.length ≤ 9223372036854775807) (d : Nat) : ∀ (k : Nat) (i : Int) (b : Bool), 0 ≤ i → i ≤ pts.length → (pts.length : Int) - i = d → d < k →
    expr_Holds.l0 k b pts (pts.length : Int) i no x1 x2 c p = some ((b || (pts.drop i.toNat).any (rangeIn p)) != no) := by
  induction d with
  | zero =>
    intro k i b h0 h1 hd hk
    obtain ⟨k, rfl⟩ : ∃ m, k = m + 1 := ⟨k - 1, by omega⟩
    simp only [expr_Holds.l0]
    rw [if_neg (by omega), List.drop_eq_nil_of_le (by omega)]
    simp
  | succ d ih =>
    intro k i b h0 h1 hd hk
    obtain ⟨k, rfl⟩ : ∃ m, k = m + 1 := ⟨k - 1, by omega⟩
    have hlt : i < (pts.length : Int) := by omega
    have hnat : i.toNat < pts.length := by omega
    have hs : (i + 1).toNat = i.toNat + 1 := by omega
    have ihh := fun b' => ih k (i + 1) b' (by omega) (by omega) (by omega) (by omega)
    simp only [expr_Holds.l0]
    rw [if_pos hlt, if_pos h0, if_pos hlt, wrap_succ h0 hlt hn, any_at hnat z37]
    have hr : rd_T37 pts i = pts.getD i.toNat z37 := rfl
    rw [hr]
    generalize pts.getD i.toNat z37 = r
    simp only [ihh, hs]
    cases b
    · by_cases h1 : p = -1
      · simp [h1, rangeIn]
      · by_cases h2 : r.f0 ≤ p
        · simp [h1, h2, rangeIn]
        · simp [h1, h2, rangeIn]
    · simp

theorem holds_eq (no : Bool) (names : List ByteArray) (pts : List S37) (c : ByteArray) (p : Int) (hn : names.length ≤ 9223372036854775807) (hp : pts.length ≤ 9223372036854775807) {k : Nat} (hk : names.length < k) (hk2 : pts.length < k) :
    expr_Holds.f k no names pts c p = some (holdsB no names pts c p) := by
  unfold expr_Holds.f
  rw [contains_eq names c hn hk]
  simp only [Option.bind_some]
  rw [holds_loop pts no names pts c p hp pts.length k 0 _ (by omega) (by omega) (by omega) hk2]
  rfl

theorem ref_l1 (no : Bool) (names : List ByteArray) (pts : List S37) (c : ByteArray) (p : Int) (hn : pts.length ≤ 9223372036854775807) (d : Nat) : ∀ (k : Nat) (i : Int) (b : Bool), 0 ≤ i → i ≤ pts.length → (pts.length : Int) - i = d → d < k →
    caesuraref8_Holds.l1 k b i no names pts c p = some ((b || (pts.drop i.toNat).any (rangeIn p)) != no) := by
  induction d with
  | zero =>
    intro k i b h0 h1 hd hk
    obtain ⟨k, rfl⟩ : ∃ m, k = m + 1 := ⟨k - 1, by omega⟩
    simp only [caesuraref8_Holds.l1]
    rw [if_neg (by omega), List.drop_eq_nil_of_le (by omega)]
    simp
  | succ d ih =>
    intro k i b h0 h1 hd hk
    obtain ⟨k, rfl⟩ : ∃ m, k = m + 1 := ⟨k - 1, by omega⟩
    have hlt : i < (pts.length : Int) := by omega
    have hnat : i.toNat < pts.length := by omega
    have hs : (i + 1).toNat = i.toNat + 1 := by omega
    have ihh := fun b' => ih k (i + 1) b' (by omega) (by omega) (by omega) (by omega)
    simp only [caesuraref8_Holds.l1]
    rw [if_pos hlt, wrap_succ h0 hlt hn, any_at hnat z37]
    have hr : rd_T37 pts i = pts.getD i.toNat z37 := rfl
    rw [hr]
    generalize pts.getD i.toNat z37 = r
    simp only [ihh, hs]
    cases b
    · by_cases h1 : p = -1
      · simp [h1, rangeIn]
      · by_cases h2 : r.f0 ≤ p
        · simp [h1, h2, rangeIn, h0]
        · simp [h1, h2, rangeIn, h0]
    · simp

theorem ref_l0 (no : Bool) (names : List ByteArray) (pts : List S37) (c : ByteArray) (p : Int) (hn : names.length ≤ 9223372036854775807) (hp : pts.length ≤ 9223372036854775807) (d : Nat) : ∀ (k : Nat) (i : Int) (b : Bool), 0 ≤ i → i ≤ names.length → (names.length : Int) - i = d → d + pts.length + 1 < k →
    caesuraref8_Holds.l0 k b i no names pts c p = some (((b || (names.drop i.toNat).any (nameIn c)) || pts.any (rangeIn p)) != no) := by
  induction d with
  | zero =>
    intro k i b h0 h1 hd hk
    obtain ⟨k, rfl⟩ : ∃ m, k = m + 1 := ⟨k - 1, by omega⟩
    simp only [caesuraref8_Holds.l0]
    rw [if_neg (by omega), List.drop_eq_nil_of_le (by omega), ref_l1 no names pts c p hp pts.length k 0 b (by omega) (by omega) (by omega) (by omega)]
    simp
  | succ d ih =>
    intro k i b h0 h1 hd hk
    obtain ⟨k, rfl⟩ : ∃ m, k = m + 1 := ⟨k - 1, by omega⟩
    have hlt : i < (names.length : Int) := by omega
    have hnat : i.toNat < names.length := by omega
    have hs : (i + 1).toNat = i.toNat + 1 := by omega
    have ihh := fun b' => ih k (i + 1) b' (by omega) (by omega) (by omega) (by omega)
    simp only [caesuraref8_Holds.l0]
    rw [if_pos hlt, wrap_succ h0 hlt hn, any_at hnat ByteArray.empty]
    have hr : rdOf ByteArray.empty names i = names.getD i.toNat ByteArray.empty := rfl
    rw [hr]
    generalize names.getD i.toNat ByteArray.empty = r
    simp only [ihh, hs]
    cases b
    · simp [h0, nameIn]
    · simp

theorem refHolds_eq (no : Bool) (names : List ByteArray) (pts : List S37) (c : ByteArray) (p : Int) (hn : names.length ≤ 9223372036854775807) (hp : pts.length ≤ 9223372036854775807) {k : Nat} (hk : names.length + pts.length + 1 < k) :
    caesuraref8_Holds.f k no names pts c p = some (holdsB no names pts c p) := by
  unfold caesuraref8_Holds.f
  rw [ref_l0 no names pts c p hn hp names.length k 0 false (by omega) (by omega) (by omega) (by omega)]
  rfl

theorem sameStrings_loop (xs : List ByteArray) (hn : xs.length ≤ 9223372036854775807) (d : Nat) : ∀ (k : Nat) (i : Int), 0 ≤ i → i ≤ xs.length → (xs.length : Int) - i = d → d < k →
    caesuraref0_SameStrings.l0 k xs xs i = some true := by
  induction d with
  | zero =>
    intro k i h0 h1 hd hk
    obtain ⟨k, rfl⟩ : ∃ m, k = m + 1 := ⟨k - 1, by omega⟩
    simp only [caesuraref0_SameStrings.l0]
    rw [if_neg (by omega)]
  | succ d ih =>
    intro k i h0 h1 hd hk
    obtain ⟨k, rfl⟩ : ∃ m, k = m + 1 := ⟨k - 1, by omega⟩
    have hlt : i < (xs.length : Int) := by omega
    simp only [caesuraref0_SameStrings.l0]
    rw [if_pos hlt, if_pos h0, if_pos hlt, if_pos True.intro, wrap_succ h0 hlt hn]
    exact ih k (i + 1) (by omega) (by omega) (by omega) (by omega)
theorem sameRanges_loop (xs : List S37) (hn : xs.length ≤ 9223372036854775807) (d : Nat) : ∀ (k : Nat) (i : Int), 0 ≤ i → i ≤ xs.length → (xs.length : Int) - i = d → d < k →
    caesuraref0_SameRanges.l0 k xs xs i = some true := by
  induction d with
  | zero =>
    intro k i h0 h1 hd hk
    obtain ⟨k, rfl⟩ : ∃ m, k = m + 1 := ⟨k - 1, by omega⟩
    simp only [caesuraref0_SameRanges.l0]
    rw [if_neg (by omega)]
  | succ d ih =>
    intro k i h0 h1 hd hk
    obtain ⟨k, rfl⟩ : ∃ m, k = m + 1 := ⟨k - 1, by omega⟩
    have hlt : i < (xs.length : Int) := by omega
    simp only [caesuraref0_SameRanges.l0]
    rw [if_pos hlt, if_pos h0, if_pos hlt, wrap_succ h0 hlt hn]
    simp only [beq_self_eq_true, Bool.not_true, Bool.or_self, Bool.false_eq_true, if_false]
    exact ih k (i + 1) (by omega) (by omega) (by omega) (by omega)
theorem sameSet_self (no : Bool) (names : List ByteArray) (pts : List S37) (hn : names.length ≤ 9223372036854775807) (hp : pts.length ≤ 9223372036854775807) {k : Nat} (hk : names.length < k) (hk2 : pts.length < k) :
    caesuraref0_SameSet.f k no names pts no names pts = some true := by
  unfold caesuraref0_SameSet.f caesuraref0_SameStrings.f caesuraref0_SameRanges.f
  rw [if_pos rfl, if_pos rfl, sameStrings_loop names hn names.length k 0 (by omega) (by omega) (by omega) hk, sameRanges_loop pts hp pts.length k 0 (by omega) (by omega) (by omega) hk2]
  simp
theorem set_eq (no : Bool) (names : List ByteArray) (pts : List S37) (hn : names.length < 8796093022207) (hp : pts.length < 8796093022207) : caesurakit_Set.f no names pts = some (no, names, pts) := by
  unfold caesurakit_Set.f
  rw [if_pos (by simp; omega)]
  simp only [Option.bind_some, List.nil_append]
  rw [if_pos (by omega), if_pos (by omega), if_pos (by simp; omega), if_pos (by simp; omega)]
  rw [if_pos (by omega), if_pos (by omega), if_pos (by simp; omega)]
  simp
/-- what stands where a set is written over -/
def overN (names : List ByteArray) : List ByteArray := if 0 < names.length then names.set 0 ⟨#[81]⟩ else names
def overP (pts : List S37) : List S37 := if 0 < pts.length then pts.set 0 ⟨1, 1⟩ else pts
theorem overN_length (names : List ByteArray) : (overN names).length = names.length := by unfold overN; split <;> simp
theorem overP_length (pts : List S37) : (overP pts).length = pts.length := by unfold overP; split <;> simp
theorem over_eq (no : Bool) (names : List ByteArray) (pts : List S37) : caesurakit_OverSet.f no names pts = some (overN names, overP pts) := by
  unfold caesurakit_OverSet.f overN overP
  by_cases h1 : 0 < names.length <;> by_cases h2 : 0 < pts.length <;> simp [h1, h2]
end Go.Proofs.Ytljdjgejmkbleaa.PExprHolds
