/- An argument that reads as data holds a value of its kind: laws for every kind of value, with the bounds that the reading's bulk and weights give. -/
import Derived.Test.YtfonajakaimnoaaDoorRows
import Derived.Test.YtfonajakaimnoaaDoorWWords
import Derived.ProofKit
import Derived.Deep.Slices
import Derived.SizedLaws
namespace Go.Proofs.YtfonajakaimnoaaDoor.Opn
open Go.RowKit Go.Deep Go.Proofs.YtfonajakaimnoaaDoorW.PrintWords

/-- What reads as a datum (so deep) holds a value of the kind; m: its bulk at most the datum's; S: what the weights give; Q: what every reading gives. -/
def O {α : Type} (P : Program) (t : TypeId) (d : Kd α) (m : α → Nat) (S Q : α → Prop) (fuel : Nat) : Prop :=
  P.cellsOf t = d.sz ∧ ∀ {H : Type} (enc : TypeId × Value → H) (w : World) (cs : List Value) (x : DataW H × List MemPlace),
    DataW.trod enc P w 0 (fun _ => true) true fuel t cs = some x → ∃ a, d.K w a cs ∧ m a ≤ Rows.uptoBulk x.1 ∧ ((∀ n ∈ x.1.weights P t, n ≤ reachBytes) → S a) ∧ Q a

/-- The same of a row of fields, from a place of the struct on. -/
def OF {α : Type} (P : Program) (fs : List Field) (off : Nat) (d : Kd α) (m : α → Nat) (S Q : α → Prop) (fuel : Nat) : Prop :=
  ∀ {H : Type} (enc : TypeId × Value → H) (w : World) (cs : List Value) (ys : List (DataW H × List MemPlace)), ys.length = fs.length →
    (∀ (i : Nat) (f : Field), fs[i]? = some f → DataW.trod enc P w 0 (fun _ => true) true fuel f.type ((cs.drop f.offset).take (P.cellsOf f.type)) = ys[i]?) →
    ∃ a, d.K w a ((cs.drop off).take d.sz) ∧ m a ≤ Rows.uptoBulkAll (ys.map (·.1)) ∧ ((∀ n ∈ DataW.weightsEach P (fs.map (·.type)) (ys.map (·.1)), n ≤ reachBytes) → S a) ∧ Q a

variable {P : Program}

theorem O.int {t : TypeId} {k : IntKind} (ht : P.underlying t = some (.int k)) (hc : P.cellsOf t = 1) (fuel : Nat) :
    O P t (Kd.int k) (fun _ => 1) (fun _ => True) (fun n => (Lit.int k n).wf = true) fuel :=
  ⟨hc, fun enc w cs x h => by
    obtain ⟨n, rfl, rfl, hw⟩ := DataW.trod_int ht h
    exact ⟨n, rfl, by simp [Rows.uptoBulk], fun _ => trivial, hw⟩⟩
theorem O.bool {t : TypeId} (ht : P.underlying t = some .bool) (hc : P.cellsOf t = 1) (fuel : Nat) :
    O P t Kd.bool (fun _ => 1) (fun _ => True) (fun _ => True) fuel :=
  ⟨hc, fun enc w cs x h => by
    obtain ⟨n, rfl, rfl⟩ := DataW.trod_bool ht h
    exact ⟨n, rfl, by simp [Rows.uptoBulk], fun _ => trivial, trivial⟩⟩
theorem O.string {t : TypeId} (ht : P.underlying t = some .string) (hc : P.cellsOf t = 1) (fuel : Nat) :
    O P t Kd.string (fun s => s.size + 1) (fun s => s.size ≤ reachBytes) (fun s => s.size ≤ maxLen) fuel :=
  ⟨hc, fun enc w cs x h => by
    obtain ⟨n, rfl, rfl, hw⟩ := DataW.trod_string ht h
    refine ⟨n, rfl, by simp [Rows.uptoBulk], fun hn => ?_, hw⟩
    have := hn n.data.toList.length (by simp [DataW.weights])
    simpa using this⟩

/-- the bulk of a list of values -/
def ml {α : Type} (m : α → Nat) : List α → Nat
  | [] => 0
  | x :: r => m x + ml m r
theorem ml_append {α : Type} (m : α → Nat) (l r : List α) : ml m (l ++ r) = ml m l + ml m r := by
  induction l with
  | nil => simp [ml]
  | cons x l ih => simp only [List.cons_append, ml, ih]; omega
theorem ml_ge {α : Type} {m : α → Nat} (h : ∀ x, 1 ≤ m x) (l : List α) : l.length ≤ ml m l := by
  induction l with
  | nil => simp [ml]
  | cons x l ih => have := h x; simp only [List.length_cons, ml]; omega
theorem ml_mem {α : Type} {m : α → Nat} {x : α} {l : List α} (h : x ∈ l) : m x ≤ ml m l := by
  induction l with
  | nil => cases h
  | cons y l ih =>
    rcases List.mem_cons.1 h with rfl | h
    · simp only [ml]; omega
    · have := ih h; simp only [ml]; omega

theorem bulkAll_append {H : Type} (l r : List (DataW H)) : Rows.uptoBulkAll (l ++ r) = Rows.uptoBulkAll l + Rows.uptoBulkAll r := by
  induction l with
  | nil => simp [Rows.uptoBulkAll]
  | cons x l ih => simp only [List.cons_append, Rows.uptoBulkAll, ih]; omega
theorem weightsAll_mem {H : Type} {e : TypeId} {l : List (DataW H)} {x : DataW H} (hx : x ∈ l) {n : Nat} (hn : n ∈ x.weights P e) : n ∈ DataW.weightsAll P e l := by
  induction l with
  | nil => cases hx
  | cons y l ih =>
    simp only [DataW.weightsAll, List.mem_append]
    rcases List.mem_cons.1 hx with rfl | hx
    · exact .inl hn
    · exact .inr (ih hx)

/-- Elements, one by one, up to n. -/
theorem elems_of {α H : Type} {p : Nat → α → Prop} {m : α → Nat} {D : Nat → DataW H} : ∀ n, (∀ i, i < n → ∃ a, p i a ∧ m a ≤ Rows.uptoBulk (D i)) →
    ∃ us : List α, us.length = n ∧ (∀ i a, us[i]? = some a → p i a) ∧ ml m us ≤ Rows.uptoBulkAll ((List.range n).map D) := by
  intro n
  induction n with
  | zero => exact fun _ => ⟨[], rfl, fun i a h => by simp at h, by simp [ml]⟩
  | succ n ih =>
    intro h
    obtain ⟨us, h1, h2, h3⟩ := ih (fun i hi => h i (by omega))
    obtain ⟨a, ha, hm⟩ := h n (by omega)
    refine ⟨us ++ [a], by simp [h1], fun i b hb => ?_, ?_⟩
    · rcases Nat.lt_or_ge i n with hi | hi
      · rw [List.getElem?_append_left (by omega)] at hb
        exact h2 i b hb
      · have hl := (List.getElem?_eq_some_iff.1 hb).1
        simp at hl
        have : i = n := by omega
        subst this
        rw [List.getElem?_append_right (by omega)] at hb
        simp [h1] at hb
        subst hb
        exact ha
    · rw [List.range_succ, List.map_append, bulkAll_append, ml_append]
      simp only [List.map_cons, List.map_nil, Rows.uptoBulkAll, ml]
      omega

theorem add_add (a : Addr) (x y : Nat) : (a.add x).add y = a.add (x + y) := by
  unfold Addr.add
  by_cases hx : x = 0
  · simp [hx]
  · by_cases hy : y = 0
    · simp [hy]
    · simp [hx, hy, Nat.add_assoc]

theorem O.slice {α : Type} {t e e' : TypeId} {d : Kd α} {m : α → Nat} {S Q : α → Prop} (ht : P.underlying t = some (.slice e)) (hc : P.cellsOf t = 1) {fuel : Nat} (he : ∀ n, n + 1 = fuel → O P e d m S Q n) :
    O P t (Kd.slice e' d) (fun l => ml m l + 1) (fun l => l.length * P.bytesOf e ≤ reachBytes ∧ ∀ x ∈ l, S x) (fun l => l.length ≤ maxLen ∧ ∀ x ∈ l, Q x) fuel :=
  ⟨hc, fun {H} enc w cs x h => by
    rcases DataW.trod_slice ht h with ⟨rfl, rfl⟩ | ⟨a, len, cap, elems, rest, n, rfl, rfl, rfl, hb, hl, hm, hlen, hel, _, _⟩
    · exact ⟨[], ⟨none, 0, rfl, Nat.le_refl _, rfl, by simp, fun hn => absurd hn (by simp)⟩, by simp [ml, Rows.uptoBulk], fun _ => ⟨by simp, by simp⟩, by simp [maxLen], by simp⟩
    · obtain ⟨hsz, ho⟩ := he n rfl
      obtain ⟨us, h1, h2, h3⟩ := elems_of (p := fun i v => (∃ c, c.length = d.sz ∧ d.K w v c ∧ ∀ j u, c[j]? = some u → w.cell? (a.add (i * d.sz + j)) = some u) ∧ ((∀ k ∈ (elems.getD i (.nil, [])).1.weights P e, k ≤ reachBytes) → S v) ∧ Q v)
        (m := m) (D := fun i => (elems.getD i (.nil, [])).1) len (fun i hi => by
          have hi' : i < elems.length := by omega
          have hq := hel i hi
          rw [List.getElem?_eq_getElem hi'] at hq
          obtain ⟨c, hc1, hc2⟩ := Option.bind_eq_some_iff.1 hq
          obtain ⟨_, hcl, hcc⟩ := World.cells?_some hc1
          obtain ⟨v, hK, hv, hS, hQ⟩ := ho enc w c _ hc2
          have eg : elems.getD i (.nil, []) = elems[i] := by simp [List.getD, List.getElem?_eq_getElem hi']
          refine ⟨v, ⟨⟨c, by omega, hK, fun j u hj => ?_⟩, by rw [eg]; exact hS, hQ⟩, by rw [eg]; exact hv⟩
          have hjl := (List.getElem?_eq_some_iff.1 hj).1
          rw [← hj, ← hcc j (by omega), add_add, hsz])
      have emap : (List.range len).map (fun i => (elems.getD i (.nil, [])).1) = elems.map (·.1) := by
        apply List.ext_getElem?
        intro i
        rcases Nat.lt_or_ge i len with hi | hi
        · simp [hi, List.getD, List.getElem?_eq_getElem (show i < elems.length by omega)]
        · simp [List.getElem?_eq_none (show elems.length ≤ i by omega), List.getElem?_eq_none (show (List.range len).length ≤ i by simpa using hi)]
      rw [emap] at h3
      refine ⟨us, ⟨some a, cap, by simp only [h1], by omega, h1 ▸ rfl, ?_, fun _ => ⟨a, rfl, fun j p hj => (h2 j p hj).1⟩⟩, ?_, fun hw => ⟨?_, fun v hv => ?_⟩, ?_, fun v hv => ?_⟩
      · simp only [maxLen] at hm; omega
      · simp only [Rows.uptoBulk]; omega
      · have := hw ((elems.length + rest.length) * P.bytesOf e) (by simp [DataW.weights, ht])
        exact Nat.le_trans (Nat.mul_le_mul_right _ (by omega)) this
      · obtain ⟨i, hi⟩ := List.getElem?_of_mem hv
        have hil := (List.getElem?_eq_some_iff.1 hi).1
        have hi' : i < elems.length := by omega
        refine (h2 i v hi).2.1 (fun k hk => hw k ?_)
        have eg : elems.getD i (.nil, []) = elems[i] := by simp [List.getD, List.getElem?_eq_getElem hi']
        rw [eg] at hk
        simp only [DataW.weights, ht, List.mem_cons, List.mem_append]
        exact .inr (.inl (weightsAll_mem (List.mem_map.2 ⟨_, List.getElem_mem hi', rfl⟩) hk))
      · omega
      · obtain ⟨i, hi⟩ := List.getElem?_of_mem hv
        exact (h2 i v hi).2.2⟩

theorem OF.one {α : Type} {f : Field} {off : Nat} {d : Kd α} {m : α → Nat} {S Q : α → Prop} {fuel : Nat} (h : O P f.type d m S Q fuel) (ho : f.offset = off) : OF P [f] off d m S Q fuel := by
  intro H enc w cs ys hl hf
  match ys, hl with
  | [y], _ =>
    have := hf 0 f rfl
    simp only [List.getElem?_cons_zero] at this
    obtain ⟨a, hK, hm, hS, hQ⟩ := h.2 enc w _ _ this
    rw [h.1, ho] at hK
    exact ⟨a, hK, by simpa [Rows.uptoBulkAll] using hm, fun hw => hS (fun n hn => hw n (by simp [DataW.weightsEach, hn])), hQ⟩
theorem OF.cons {α β : Type} {f : Field} {fs : List Field} {off : Nat} {d : Kd α} {m : α → Nat} {S Q : α → Prop} {d' : Kd β} {m' : β → Nat} {S' Q' : β → Prop} {fuel : Nat}
    (h : O P f.type d m S Q fuel) (ho : f.offset = off) (hr : OF P fs (off + d.sz) d' m' S' Q' fuel) :
    OF P (f :: fs) off (Kd.pair d d') (fun x => m x.1 + m' x.2) (fun x => S x.1 ∧ S' x.2) (fun x => Q x.1 ∧ Q' x.2) fuel := by
  intro H enc w cs ys hl hf
  match ys, hl with
  | y :: ys, hl =>
    have h0 := hf 0 f rfl
    simp only [List.getElem?_cons_zero] at h0
    obtain ⟨a, hK, hm, hS, hQ⟩ := h.2 enc w _ _ h0
    obtain ⟨b, hK', hm', hS', hQ'⟩ := hr enc w cs ys (by simpa using hl) (fun i g hg => by have := hf (i + 1) g (by simpa using hg); simpa using this)
    rw [h.1, ho] at hK
    refine ⟨(a, b), ⟨_, _, ?_, hK, hK'⟩, by simp only [List.map_cons, Rows.uptoBulkAll]; omega, fun hw => ⟨hS (fun n hn => hw n (by simp [DataW.weightsEach, hn])), hS' (fun n hn => hw n ?_)⟩, hQ, hQ'⟩
    · show List.take (d.sz + d'.sz) _ = _
      rw [List.take_add, List.drop_drop]
    · simp only [List.map_cons, DataW.weightsEach, List.mem_append]
      exact .inr hn

theorem O.struct {α β : Type} {t : TypeId} {fs : Array Field} {d : Kd α} {m : α → Nat} {S Q : α → Prop} {f : β → α} (g : α → β) (hg : ∀ a, f (g a) = a) (ht : P.underlying t = some (.struct fs)) (hc : P.cellsOf t = d.sz) {fuel : Nat}
    (h : ∀ n, n + 1 = fuel → OF P fs.toList 0 d m S Q n) : O P t (Kd.iso d f) (fun x => m (f x) + 1) (fun x => S (f x)) (fun x => Q (f x)) fuel :=
  ⟨hc, fun enc w cs x hx => by
    obtain ⟨xs, n, hn, rfl, hl, hlen, hf⟩ := DataW.trod_struct ht hx
    obtain ⟨a, hK, hm, hS, hQ⟩ := h n hn.symm enc w cs xs (by simpa using hlen) (fun i fl hi => hf i fl (by simpa using hi))
    rw [List.drop_zero, ← hc, ← hl, List.take_length] at hK
    refine ⟨g a, ?_, ?_, fun hw => ?_, ?_⟩
    · show d.K w (f (g a)) cs
      rw [hg]; exact hK
    · simp only [hg, Rows.uptoBulk]; omega
    · show S (f (g a))
      rw [hg]
      exact hS (fun k hk => hw k (by simp only [DataW.weights, ht]; exact hk))
    · show Q (f (g a))
      rw [hg]; exact hQ⟩

/-- A kind weaker in what is said. -/
theorem O.imp_ {α : Type} {t : TypeId} {d d' : Kd α} {m m' : α → Nat} {S S' Q Q' : α → Prop} {fuel : Nat} (h : O P t d m S Q fuel) (hs : d'.sz = d.sz) (hK : ∀ w a cs, d.K w a cs → d'.K w a cs) (hm : ∀ a, m' a ≤ m a) (hS : ∀ a, S a → S' a) (hQ : ∀ a, Q a → Q' a) : O P t d' m' S' Q' fuel :=
  ⟨h.1.trans hs.symm, fun enc w cs x hx => by
    obtain ⟨a, h1, h2, h3, h4⟩ := h.2 enc w cs x hx
    exact ⟨a, hK _ _ _ h1, Nat.le_trans (hm a) h2, fun hw => hS a (h3 hw), hQ a h4⟩⟩

/-- THE BOUND, as the builder hands it over. -/
theorem bound {H : Type} {l : List (DataW H)} (hk : Rows.uptoSmall H l = true) : Rows.uptoBulkAll l ≤ 1048576 := of_decide_eq_true hk
end Go.Proofs.YtfonajakaimnoaaDoor.Opn
