/- places.Match. -/
import Derived.Test.YtfonajakaimnoaaDoorMatch
namespace Go.Proofs.YtfonajakaimnoaaDoor.C11
open Go.RowKit Go.Proofs.YtfonajakaimnoaaDoorW.PrintWords Go.Proofs.YtfonajakaimnoaaDoorW.PrintLast Go.Proofs.YtfonajakaimnoaaDoorW.PrintMore Go.Proofs.YtfonajakaimnoaaDoor.Lib Lent Go.Proofs.YtfonajakaimnoaaDoor.Fn Go.Shelf Go.Proofs.YtfonajakaimnoaaDoor.Stl
attribute [local go_sem] max2_int min2_int max_two min_two max_three min_three max_four min_four

def inK (L Fo : LL) (c : Int) (now next : List Bool) : Nat → List Bool
  | 0 => next
  | k + 1 => if now.getD k false then reachL L c (inK L Fo c now next k) (Fo.getD k []) else inK L Fo c now next k
def begin (L : LL) (c : Int) (F : List Int) (k : Nat) : List Bool := if k = 0 then reachL L c (List.replicate L.length false) F else List.replicate L.length false
def atK (L : LL) (F : List Int) (Fo : LL) (word : List Int) : Nat → List Bool
  | 0 => List.replicate L.length false
  | k + 1 => inK L Fo (word.getD k 0) (atK L F Fo word k) (begin L (word.getD k 0) F k) L.length
def matchB (L : LL) (F La : List Int) (Fo : LL) (b : Bool) (word : List Int) : Bool :=
  placedB L F La Fo && (if word.length = 0 then b else La.any (fun q => (atK L F Fo word word.length).getD q.toNat false))
theorem inK_length (L Fo : LL) (c : Int) (now next : List Bool) (k : Nat) : (inK L Fo c now next k).length = next.length := by
  induction k with
  | zero => rfl
  | succ k ih =>
    simp only [inK]
    split
    · rw [reachL_length, ih]
    · exact ih
theorem begin_length (L : LL) (c : Int) (F : List Int) (k : Nat) : (begin L c F k).length = L.length := by
  unfold begin
  split
  · rw [reachL_length, List.length_replicate]
  · rw [List.length_replicate]
theorem atK_length (L : LL) (F : List Int) (Fo : LL) (word : List Int) (k : Nat) : (atK L F Fo word k).length = L.length := by
  cases k with
  | zero => simp [atK]
  | succ k => simp only [atK]; rw [inK_length, begin_length]

theorem is_calls (Bn g n : Nat) (now : List Bool) (q : Int) (w : World) (hn : w.cell? ⟨Bn, 0, none⟩ = some (.slice (some ⟨g, 0, none⟩) n n)) (hnl : now.length = n) (hq : 0 ≤ q ∧ q < (n : Int))
    (hrow : w.heap[g]? = some (.cells (bools now).toArray 4 (0, 0))) :
    Calls Tryd.prog 78 (#[.int .i64 q] ++ #[.pointer (some ⟨Bn, 0, none⟩)]) w fun e w' => e = .returned (.bool (now.getD q.toNat false)) ∧ Below w.heap.size w w' := by
  obtain ⟨q, rfl⟩ := Int.eq_ofNat_of_zero_le hq.1
  have hqn : q < n := by omega
  have hqz : (q : Int) < (n : Int) := by omega
  have hq0 : (0 : Int) ≤ (q : Int) := by omega
  have hb : w.cell? ⟨g, q, none⟩ = some (.bool (now.getD q false)) := (blk_cell hrow q).trans (bools_at _ _ (by omega))
  rw [show ((q : Int)).toNat = q from rfl]
  generalize now.getD q false = x at hb
  clear hrow
  go_enter Tryd.func78, Tryd.ntmps78
  go_wp2_with fail
  go_ret
  exact ⟨rfl, Below.refl _ _⟩

theorem infoBool : (Tryd.prog.info? 4).map (fun i => (i.zero, i.size, i.bytes)) = some (some (.bool false), 1, 1) := by kernel_rfl
theorem make_bools (n : Nat) (hn : n < 5000000000000) (W : World) : (Instr.makeSlice 58 (.int .i64 n) (.int .i64 n)).run Tryd.prog W = .ok (.slice (some ⟨W.heap.size, 0, none⟩) n n) (W.alloc (.cells (bools (List.replicate n false)).toArray 4)) := by
  obtain ⟨i, hi, hz⟩ := Option.map_eq_some_iff.1 infoBool
  simp only [Prod.mk.injEq] at hz
  obtain ⟨z1, z2, z3⟩ := hz
  have h := run_make (P := Tryd.prog) W 58 4 i (.bool false) Tryd.underlying58 hi z1 .i64 .i64 (n : Int) (n : Int) (by omega) (by omega) (by rw [z3]; omega) (by omega)
  rw [h]
  have : (madeCells (Value.bool false).cells ((n : Int).toNat * i.size)) = (bools (List.replicate n false)).toArray := by
    rw [z2]
    apply Array.ext
    · simp [size_madeCells, bools]
    · intro j h1 h2
      simp [madeCells, bools, Value.cells, Nat.mod_one]
  rw [this]
  rfl

theorem placed_in {L : LL} {F La : List Int} {Fo : LL} (h : placedB L F La Fo = true) : Fo.length = L.length ∧ (∀ q ∈ F, 0 ≤ q ∧ q < (L.length : Int)) ∧ (∀ q ∈ La, 0 ≤ q ∧ q < (L.length : Int)) ∧ ∀ l ∈ Fo, ∀ q ∈ l, 0 ≤ q ∧ q < (L.length : Int) := by
  simp only [placedB, Bool.and_eq_true, decide_eq_true_eq, Bool.not_eq_true', List.any_cons, Bool.or_eq_false_iff] at h
  obtain ⟨h1, h2, h3, h4⟩ := h
  have key : ∀ l : List Int, l.any (wrongB L.length) = false → ∀ q ∈ l, 0 ≤ q ∧ q < (L.length : Int) := fun l hl q hq => by
    have := List.any_eq_false.1 hl q hq
    simp [wrongB] at this
    omega
  exact ⟨h1, key F h2, key La h3, fun l hl => key l (by simpa using List.any_eq_false.1 h4 l hl)⟩

/-- what stands while one symbol is read -/
structure Mid (w : World) (s b5 g r n : Nat) (A0 A1 A2 A3 : Value) (now : List Bool) (c : Int) (next : List Bool) (wc : World) : Prop where
  below : Below s w wc
  f0 : wc.cell? ⟨s, 0, none⟩ = some A0
  f1 : wc.cell? ⟨s, 1, none⟩ = some A1
  f2 : wc.cell? ⟨s, 2, none⟩ = some A2
  f3 : wc.cell? ⟨s, 3, none⟩ = some A3
  a5 : wc.heap[b5]? = some (.cells #[.slice (some ⟨g, 0, none⟩) n n] 58 (0, 0))
  row : wc.heap[g]? = some (.cells (bools now).toArray 4 (0, 0))
  a7 : wc.cell? ⟨r, 0, none⟩ = some (.int .i64 c)
  a8 : wc.cell? ⟨r + 1 + 1, 0, none⟩ = some (.slice (some ⟨r + 1, 0, none⟩) n n)
  new : wc.heap[r + 1]? = some (.cells (bools next).toArray 4 (0, 0))
  len : next.length = n
  big : r + 1 + 1 < wc.heap.size
  ps : s < r
  p5 : b5 < r
  pg : g < r
  ng : g ≠ b5
  s5 : s < b5
  sg : s < g

theorem Mid.step {w : World} {s b5 g r n : Nat} {A0 A1 A2 A3 : Value} {now : List Bool} {c : Int} {next : List Bool} {wc : World} (h : Mid w s b5 g r n A0 A1 A2 A3 now c next wc) {L : LL} {l : List Int} {wd : World}
    (h1 : wd.heap[r + 1]? = some (.cells (bools (reachL L c next l)).toArray 4 (0, 0))) (h2 : wc.heap.size ≤ wd.heap.size) (h3 : ∀ k, k < wc.heap.size → k ≠ r + 1 → wd.heap[k]? = wc.heap[k]?) (h4 : Below s w wd) :
    Mid w s b5 g r n A0 A1 A2 A3 now c (reachL L c next l) wd := by
  have hc : ∀ (k o : Nat) (v : Value), wc.cell? ⟨k, o, none⟩ = some v → k ≠ r + 1 → wd.cell? ⟨k, o, none⟩ = some v := fun k o v h1 h2 => by
    have hlt := World.block_lt_of_cell? wc _ h1
    simp only [World.cell?] at h1 ⊢
    rw [h3 k hlt h2]; exact h1
  have := h.ps
  have := h.p5
  have := h.pg
  have hg : g < wc.heap.size := by have := h.big; omega
  exact ⟨h4, hc _ _ _ h.f0 (by omega), hc _ _ _ h.f1 (by omega), hc _ _ _ h.f2 (by omega), hc _ _ _ h.f3 (by omega), (h3 b5 (by have := h.big; omega) (by omega)).trans h.a5, (h3 g hg (by omega)).trans h.row,
    hc _ _ _ h.a7 (by omega), hc _ _ _ h.a8 (by omega), h1, (reachL_length _ _ _ _).trans h.len, by have := h.big; omega, h.ps, h.p5, h.pg, h.ng, h.s5, h.sg⟩

/-- what stands between two symbols -/
structure Top (w : World) (s b5 g n : Nat) (A0 A1 A2 A3 : Value) (now : List Bool) (wc : World) : Prop where
  below : Below s w wc
  f0 : wc.cell? ⟨s, 0, none⟩ = some A0
  f1 : wc.cell? ⟨s, 1, none⟩ = some A1
  f2 : wc.cell? ⟨s, 2, none⟩ = some A2
  f3 : wc.cell? ⟨s, 3, none⟩ = some A3
  a5 : wc.heap[b5]? = some (.cells #[.slice (some ⟨g, 0, none⟩) n n] 58 (0, 0))
  row : wc.heap[g]? = some (.cells (bools now).toArray 4 (0, 0))
  ng : g ≠ b5
  s5 : s < b5
  sg : s < g

theorem Top.mid {w : World} {s b5 g n : Nat} {A0 A1 A2 A3 : Value} {now : List Bool} {wr : World} (h : Top w s b5 g n A0 A1 A2 A3 now wr) (hs : s = w.heap.size) (c : Int) :
    Mid w s b5 g wr.heap.size n A0 A1 A2 A3 now c (List.replicate n false)
      (((wr.alloc (.cells #[.int .i64 c] 3)).alloc (.cells (bools (List.replicate n false)).toArray 4)).alloc (.cells #[.slice (some ⟨wr.heap.size + 1, 0, none⟩) n n] 58)) := by
  subst hs
  have l5 := blk_lt h.a5
  have lg := blk_lt h.row
  have l5' : b5 < wr.heap.size + 1 := by omega
  have l5'' : b5 < wr.heap.size + 1 + 1 := by omega
  have lg' : g < wr.heap.size + 1 := by omega
  have lg'' : g < wr.heap.size + 1 + 1 := by omega
  refine ⟨below_alloc (below_alloc (below_alloc h.below _) _) _, cell_alloc (cell_alloc (cell_alloc h.f0 _) _) _, cell_alloc (cell_alloc (cell_alloc h.f1 _) _) _, cell_alloc (cell_alloc (cell_alloc h.f2 _) _) _, cell_alloc (cell_alloc (cell_alloc h.f3 _) _) _, ?_, ?_, ?_, ?_, ?_, by simp, by simp, by have := h.s5; omega, l5, lg, h.ng, h.s5, h.sg⟩
  · rw [heap_alloc_old _ _ (by simp; omega), heap_alloc_old _ _ (by simp; omega), heap_alloc_old _ _ (by omega)]
    exact h.a5
  · rw [heap_alloc_old _ _ (by simp; omega), heap_alloc_old _ _ (by simp; omega), heap_alloc_old _ _ (by omega)]
    exact h.row
  · go_simp
  · go_simp
  · rw [heap_alloc_old _ _ (by simp)]
    have := heap_alloc_new (wr.alloc (.cells #[.int .i64 c] 3)) (.cells (bools (List.replicate n false)).toArray 4)
    simpa using this

theorem Mid.top {w : World} {s b5 g r n : Nat} {A0 A1 A2 A3 : Value} {now : List Bool} {c : Int} {next : List Bool} {wc : World} (h : Mid w s b5 g r n A0 A1 A2 A3 now c next wc) :
    Top w s b5 (r + 1) n A0 A1 A2 A3 next (wc.setCell ⟨b5, 0, none⟩ (.slice (some ⟨r + 1, 0, none⟩) n n)) := by
  have hs := h.s5
  have h5 := h.p5
  have hc : ∀ (o : Nat) (v : Value), wc.cell? ⟨s, o, none⟩ = some v → (wc.setCell ⟨b5, 0, none⟩ (.slice (some ⟨r + 1, 0, none⟩) n n)).cell? ⟨s, o, none⟩ = some v := fun o v h1 => by
    simp only [World.cell?] at h1 ⊢
    rw [Below.heap_setCell wc ⟨b5, 0, none⟩ _ s (by show s ≠ b5; omega)]; exact h1
  exact ⟨h.below.setCell (by show s ≤ b5; omega) _, hc _ _ h.f0, hc _ _ h.f1, hc _ _ h.f2, hc _ _ h.f3, blk_set h.a5 0 _, (Below.heap_setCell wc ⟨b5, 0, none⟩ _ (r + 1) (by show r + 1 ≠ b5; omega)).trans h.new, by omega, hs, by have := h.ps; omega⟩

theorem inK_step (L Fo : LL) (c : Int) (now next : List Bool) (k : Nat) (b : Bool) (h : now.getD k false = b) : inK L Fo c now next (k + 1) = if b then reachL L c (inK L Fo c now next k) (Fo.getD k []) else inK L Fo c now next k := by
  subst h; rfl

set_option maxHeartbeats 2000000 in
set_option maxRecDepth 10000 in
theorem match_calls (A0 : Option Addr) (c0 : Nat) (L : LL) (A1 : Option Addr) (c1 : Nat) (F : List Int) (A2 : Option Addr) (c2 : Nat) (La : List Int) (A3 : Option Addr) (c3 : Nat) (Fo : LL) (b : Bool) (A4 : Option Addr) (c4 : Nat) (word : List Int) (w : World)
    (h0 : Kd.C kL w A0 L.length L ∧ L.length ≤ c0) (h1 : Kd.C kI w A1 F.length F ∧ F.length ≤ c1) (h2 : Kd.C kI w A2 La.length La ∧ La.length ≤ c2) (h3 : Kd.C kL w A3 Fo.length Fo ∧ Fo.length ≤ c3) (h4 : Kd.C kI w A4 word.length word) (hlen : Fo.length < 5000000000000) (hlen2 : L.length < 5000000000000) :
    Calls Tryd.prog 23 #[.agg #[.slice A0 L.length c0, .slice A1 F.length c1, .slice A2 La.length c2, .slice A3 Fo.length c3, .bool b], .slice A4 word.length c4] w fun e w' => e = .returned (.bool (matchB L F La Fo b word)) ∧ Below w.heap.size w w' := by
  have hu := Tryd.underlying42
  have e75 := enters_of Tryd.func75 (by kernel_rfl) rfl
  have hbig := C_bound h4
  have H0 := Aside0.mk h0
  have H1 := Aside0.mk h1
  have H2 := Aside0.mk h2
  have H3 := Aside0.mk h3
  have H4 := Aside0.mk h4
  have HN := Aside0.mk hlen
  clear h0 h1 h2 h3 h4 hlen
  go_enter Tryd.func23, Tryd.ntmps23
  go_wp2_with fail
  have hbW := fun (o1 : Obj) => (below_alloc (Below.refl w.heap.size w) o1)
  refine (placed_calls A0 c0 L A1 c1 F A2 c2 La A3 c3 Fo b _ ⟨Kd.C_below H0.out.1 (hbW _), H0.out.2⟩ ⟨Kd.C_below H1.out.1 (hbW _), H1.out.2⟩ ⟨Kd.C_below H2.out.1 (hbW _), H2.out.2⟩ ⟨Kd.C_below H3.out.1 (hbW _), H3.out.2⟩ HN.out).mono ?_
  rintro e w1 ⟨rfl, hb⟩
  obtain ⟨hc, hf⟩ := bcell hb
  have hz : w.heap.size < w1.heap.size := by have := hb.size; simp at this; omega
  have f0 : w1.cell? ⟨w.heap.size, 0, none⟩ = some (.slice A0 L.length c0) := (hc _ 0 (by simp)).trans (by go_simp)
  have f1 : w1.cell? ⟨w.heap.size, 1, none⟩ = some (.slice A1 F.length c1) := (hc _ 1 (by simp)).trans (by go_simp)
  have f2 : w1.cell? ⟨w.heap.size, 2, none⟩ = some (.slice A2 La.length c2) := (hc _ 2 (by simp)).trans (by go_simp)
  have f3 : w1.cell? ⟨w.heap.size, 3, none⟩ = some (.slice A3 Fo.length c3) := (hc _ 3 (by simp)).trans (by go_simp)
  have f4 : w1.cell? ⟨w.heap.size, 4, none⟩ = some (.bool b) := (hc _ 4 (by simp)).trans (by go_simp)
  have HB := Aside0.mk (below_step (hbW _) hb)
  clear hb hbW hc hf
  cases hP : placedB L F La Fo with
  | false =>
    have HP := Aside0.mk hP
    clear hP
    go_wp2_with fail
    go_ret
    exact ⟨by simp [matchB, HP.out], HB.out⟩
  | true =>
    have HP := Aside0.mk hP
    clear hP
    by_cases hl : word.length = 0
    · have hb1 : ((word.length : Int) == 0) = true := by rw [hl]; rfl
      have hb2 : (word.length == 0) = true := by rw [hl]; rfl
      have HL := Aside0.mk hl
      clear hl
      go_wp2_with fail
      go_ret
      exact ⟨by simp [matchB, HP.out, HL.out], HB.out⟩
    · have hb1 : ((word.length : Int) == 0) = false := beq_eq_false_iff_ne.2 (by omega)
      have hb2 : (word.length == 0) = false := beq_eq_false_iff_ne.2 (by omega)
      have HL := Aside0.mk hl
      clear hl
      have hmk := make_bools L.length hlen2
      go_wp2_with fail
      go_loopg [26] word.length (fun gg v26 wr => ∃ (kk g : Nat), kk ≤ word.length ∧ word.length - kk ≤ gg ∧ v26 = .int .i64 kk ∧ Aside0 (Top w w.heap.size (w1.heap.size + 1) g L.length (.slice A0 L.length c0) (.slice A1 F.length c1) (.slice A2 La.length c2) (.slice A3 Fo.length c3) (atK L F Fo word kk) wr))
      case atStart =>
        refine ⟨0, w1.heap.size, Nat.zero_le _, by omega, rfl, ⟨?_⟩⟩
        have hb2 := below_alloc (below_alloc HB.out (.cells (bools (List.replicate L.length false)).toArray 4)) (.cells #[.slice (some ⟨w1.heap.size, 0, none⟩) L.length L.length] 58)
        refine ⟨hb2, cell_alloc (cell_alloc f0 _) _, cell_alloc (cell_alloc f1 _) _, cell_alloc (cell_alloc f2 _) _, cell_alloc (cell_alloc f3 _) _, ?_, ?_, by omega, by omega, hz⟩
        · have := heap_alloc_new (w1.alloc (.cells (bools (List.replicate L.length false)).toArray 4)) (.cells #[.slice (some ⟨w1.heap.size, 0, none⟩) L.length L.length] 58)
          simpa using this
        · rw [heap_alloc_old _ _ (by simp)]
          exact heap_alloc_new _ _
      case round =>
        obtain ⟨kk, g, hkk, hg, rfl, HT⟩ := hrel
        obtain ⟨wo, rfl⟩ : ∃ wo, wo = wr := ⟨_, rfl⟩
        have ff0 := HT.out.f0
        have ff1 := HT.out.f1
        have ff2 := HT.out.f2
        have ff3 := HT.out.f3
        have aa5 : wo.cell? ⟨w1.heap.size + 1, 0, none⟩ = some (.slice (some ⟨g, 0, none⟩) L.length L.length) := (blk_cell HT.out.a5 0).trans rfl
        by_cases hlt : kk < word.length
        · have hltz : (kk : Int) < (word.length : Int) := by omega
          obtain ⟨ad, rfl, hcell⟩ := int_at (Kd.C_below H4.out HT.out.below) kk word[kk] (List.getElem?_eq_getElem hlt)
          have hy : Aside0 (word.getD kk 0 = word[kk]) := ⟨by rw [List.getD_eq_getElem?_getD, List.getElem?_eq_getElem hlt]; rfl⟩
          generalize word[kk] = c at hcell hy
          have al5 := fun o => cell_alloc aa5 o
          have al1 := fun o1 o2 o3 => cell_alloc (cell_alloc (cell_alloc ff1 o1) o2) o3
          have T := Aside0.mk (HT.out.mid rfl c)
          have PIN := Aside0.mk (placed_in HP.out)
          clear HT
          go_upto_if 36 with fail
          go_cut [35] (fun v35 wc => v35 = .int .i64 kk ∧ Aside0 (Mid w w.heap.size (w1.heap.size + 1) g wo.heap.size L.length (.slice A0 L.length c0) (.slice A1 F.length c1) (.slice A2 La.length c2) (.slice A3 Fo.length c3) (atK L F Fo word kk) c (begin L c F kk) wc))
          case first =>
            by_cases h0 : kk = 0
            · have d1 : ((kk : Int) == 0) = true := by rw [h0]; rfl
              have d2 : (kk == 0) = true := by rw [h0]; rfl
              have E0 := Aside0.mk h0
              clear h0
              go_wp2_with fail
              have t := T.out
              refine (reach_calls (wo.heap.size + 1 + 1) (wo.heap.size + 1) w.heap.size wo.heap.size L.length A0 c0 L c (List.replicate L.length false) A1 c1 F w _ t.below H0.out.1 H1.out.1 (by have := t.ps; omega) t.a8 t.f0 t.a7 (by omega) (by have := t.ps; omega) (by omega) t.len rfl PIN.out.2.1 t.new).mono ?_
              rintro e w' ⟨rfl, g1, g2, g3, g4⟩
              have t' := Aside0.mk (t.step g1 g2 g3 g4)
              clear t g1 g2 g3 g4
              go_wp2_with fail
              go_meet
              refine ⟨rfl, ⟨?_⟩⟩
              rw [show begin L c F kk = reachL L c (List.replicate L.length false) F from by simp [begin, E0.out]]
              exact t'.out
            · have d1 : ((kk : Int) == 0) = false := beq_eq_false_iff_ne.2 (by omega)
              have d2 : (kk == 0) = false := beq_eq_false_iff_ne.2 (by omega)
              have E0 := Aside0.mk h0
              clear h0
              go_wp2_with fail
              go_meet
              refine ⟨rfl, ⟨?_⟩⟩
              rw [show begin L c F kk = List.replicate L.length false from by simp [begin, E0.out]]
              exact T.out
          case rest =>
            obtain ⟨rfl, HM⟩ := hcut
            have m5 : wc.cell? ⟨w1.heap.size + 1, 0, none⟩ = some (.slice (some ⟨g, 0, none⟩) L.length L.length) := (blk_cell HM.out.a5 0).trans rfl
            clear al5 al1 ff0 ff1 ff2 ff3 aa5 hcell f0 f1 f2 f3 f4
            go_wp2_with fail
            go_loopg [43] L.length (fun gg v43 wr => ∃ (j : Nat), j ≤ L.length ∧ L.length - j ≤ gg ∧ v43 = .int .i64 j ∧ Aside0 (Mid w w.heap.size (w1.heap.size + 1) g wo.heap.size L.length (.slice A0 L.length c0) (.slice A1 F.length c1) (.slice A2 La.length c2) (.slice A3 Fo.length c3) (atK L F Fo word kk) c (inK L Fo c (atK L F Fo word kk) (begin L c F kk) j) wr))
            case atStart => exact ⟨0, Nat.zero_le _, by omega, rfl, HM⟩
            case round =>
              obtain ⟨j, hj, hgj, rfl, HQ⟩ := hrel
              have ff3 := HQ.out.f3
              by_cases hlj : j < L.length
              · have hlz : (j : Int) < (L.length : Int) := by omega
                have hrow : wr.cell? ⟨g, j, none⟩ = some (.bool ((atK L F Fo word kk).getD j false)) := (blk_cell HQ.out.row j).trans (bools_at _ _ (by rw [atK_length]; exact hlj))
                have hst := Aside0.mk (inK_step L Fo c (atK L F Fo word kk) (begin L c F kk) j)
                generalize hv : (atK L F Fo word kk).getD j false = v at hrow
                have HV := Aside0.mk hv
                clear hv
                cases v with
                | true =>
                  have hFo := PIN.out.1
                  obtain ⟨ad3, A5, c5, rfl, hcell5', h5, h6⟩ := list_at H3.out.1 j (Fo.getD j []) (by rw [List.getD_eq_getElem?_getD, List.getElem?_eq_getElem (show j < Fo.length by omega)]; rfl)
                  have hcell5 := pw_cell_below HQ.out.below hcell5'
                  clear hcell5'
                  have hmem : Fo.getD j [] ∈ Fo := by
                    rw [List.getD_eq_getElem?_getD, List.getElem?_eq_getElem (show j < Fo.length by omega)]
                    exact List.getElem_mem _
                  have hqs := Aside0.mk (PIN.out.2.2.2 _ hmem)
                  have hE : Aside0 (inK L Fo c (atK L F Fo word kk) (begin L c F kk) (j + 1) = reachL L c (inK L Fo c (atK L F Fo word kk) (begin L c F kk) j) (Fo.getD j [])) := ⟨by rw [hst.out true HV.out]; rfl⟩
                  have hjF : j < Fo.length := by omega
                  have hjz : (j : Int) < (Fo.length : Int) := by omega
                  clear hmem hst
                  generalize Fo.getD j [] = x at hcell5 h5 h6 hqs hE
                  have H6 := Aside0.mk (And.intro h5 h6)
                  clear h5 h6 hFo
                  go_wp2_with fail
                  have t := HQ.out
                  refine (reach_calls (wo.heap.size + 1 + 1) (wo.heap.size + 1) w.heap.size wo.heap.size L.length A0 c0 L c _ A5 c5 x w _ t.below H0.out.1 H6.out.2 (by have := t.ps; omega) t.a8 t.f0 t.a7 (by omega) (by have := t.ps; omega) (by omega) t.len rfl hqs.out t.new).mono ?_
                  rintro e w' ⟨rfl, g1, g2, g3, g4⟩
                  have t' := Aside0.mk (t.step g1 g2 g3 g4)
                  clear t g1 g2 g3 g4
                  go_wp2_with fail
                  go_roundg (L.length - (j + 1))
                  case measure => omega
                  case rel =>
                    refine ⟨j + 1, by omega, by omega, by go_num, ?_⟩
                    rw [hE.out]
                    exact t'
                | false =>
                  have hE : Aside0 (inK L Fo c (atK L F Fo word kk) (begin L c F kk) (j + 1) = inK L Fo c (atK L F Fo word kk) (begin L c F kk) j) := ⟨by rw [hst.out false HV.out]; rfl⟩
                  clear hst
                  go_wp2_with fail
                  go_roundg (L.length - (j + 1))
                  case measure => omega
                  case rel =>
                    refine ⟨j + 1, by omega, by omega, by go_num, ?_⟩
                    rw [hE.out]
                    exact HQ
              · have hlz : ¬ (j : Int) < (L.length : Int) := by omega
                obtain rfl : L.length = j := by omega
                have q8 := HQ.out.a8
                have q5 : wr.cell? ⟨w1.heap.size + 1, 0, none⟩ = some (.slice (some ⟨g, 0, none⟩) L.length L.length) := (blk_cell HQ.out.a5 0).trans rfl
                have qf := blk_frozen HQ.out.a5 0
                go_wp2_with fail
                go_roundg (word.length - (kk + 1))
                case measure => omega
                case rel =>
                  refine ⟨kk + 1, wo.heap.size + 1, by omega, by omega, by go_num, ⟨?_⟩⟩
                  rw [show atK L F Fo word (kk + 1) = inK L Fo c (atK L F Fo word kk) (begin L c F kk) L.length from by simp only [atK, hy.out]]
                  exact HQ.out.top
        · have hltz : ¬ (kk : Int) < (word.length : Int) := by omega
          obtain rfl : word.length = kk := by omega
          have PIN := Aside0.mk (placed_in HP.out)
          go_wp2_with fail
          refine (containsFunc_int 78 #[.pointer (some ⟨w1.heap.size + 1, 0, none⟩)] (enters_of Tryd.func78 (by kernel_rfl) rfl) (fun q => (atK L F Fo word word.length).getD q.toNat false) A2 c2 La wo (Kd.C_below H2.out.1 HT.out.below) (fun W x hb hx => ?_)).mono ?_
          · have := HT.out.ng
            exact is_calls (w1.heap.size + 1) g L.length (atK L F Fo word word.length) x W ((hb.cell (p := ⟨w1.heap.size + 1, 0, none⟩) (blk_lt HT.out.a5)).trans aa5) (atK_length _ _ _ _ _) (PIN.out.2.2.1 x hx) ((hb.block _ (blk_lt HT.out.row)).trans HT.out.row)
          · rintro e w' ⟨rfl, hb'⟩
            go_wp2_with fail
            go_ret
            exact ⟨by simp [matchB, HP.out, HL.out], below_step HT.out.below hb'⟩
end Go.Proofs.YtfonajakaimnoaaDoor.C11
