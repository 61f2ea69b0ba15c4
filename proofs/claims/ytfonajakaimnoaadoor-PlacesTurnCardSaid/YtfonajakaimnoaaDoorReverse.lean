/- places.Reverse: its walk. -/
import Derived.Test.YtfonajakaimnoaaDoorRevBase
namespace Go.Proofs.YtfonajakaimnoaaDoor.C11
open Go.RowKit Go.Proofs.YtfonajakaimnoaaDoorW.PrintWords Go.Proofs.YtfonajakaimnoaaDoorW.PrintLast Go.Proofs.YtfonajakaimnoaaDoorW.PrintMore Go.Proofs.YtfonajakaimnoaaDoor.Lib Lent Go.Proofs.YtfonajakaimnoaaDoor.Fn Go.Shelf Go.Proofs.YtfonajakaimnoaaDoor.Stl
set_option linter.unusedVariables false
set_option linter.unusedSimpArgs false
attribute [local go_sem] max2_int min2_int max_two min_two max_three min_three max_four min_four

set_option maxHeartbeats 8000000 in
set_option maxRecDepth 100000 in
theorem reverse_calls (A0 : Option Addr) (c0 : Nat) (L : LL) (A1 : Option Addr) (c1 : Nat) (F : List Int) (A2 : Option Addr) (c2 : Nat) (La : List Int) (A3 : Option Addr) (c3 : Nat) (Fo : LL) (b : Bool) (w : World)
    (h0 : Kd.C kL w A0 L.length L ∧ L.length ≤ c0) (h1 : Kd.C kI w A1 F.length F ∧ F.length ≤ c1) (h2 : Kd.C kI w A2 La.length La ∧ La.length ≤ c2) (h3 : Kd.C kL w A3 Fo.length Fo ∧ Fo.length ≤ c3) (hlen : Fo.length < 5000000000000) (hlen2 : L.length < 5000000000000)
    (h1b : F.length < 10000000000000) (h2b : La.length < 10000000000000) (hLb : ∀ l ∈ L, l.length < 10000000000000) (htot : tot Fo Fo.length ≤ 5000000000000) :
    Calls Tryd.prog 24 #[.agg #[.slice A0 L.length c0, .slice A1 F.length c1, .slice A2 La.length c2, .slice A3 Fo.length c3, .bool b]] w (revPost L F La Fo b w) := by
  have hu := Tryd.underlying42
  have H0 := Aside0.mk h0
  have H1 := Aside0.mk h1
  have H2 := Aside0.mk h2
  have H3 := Aside0.mk h3
  have HN := Aside0.mk hlen
  have H1b := Aside0.mk h1b
  have H2b := Aside0.mk h2b
  have HLb := Aside0.mk hLb
  have HT := Aside0.mk htot
  clear h0 h1 h2 h3 hlen h1b h2b hLb htot
  go_enter Tryd.func24, Tryd.ntmps24
  go_wp2_with fail
  have hbW := fun (o1 o2 : Obj) => (below_alloc (below_alloc (Below.refl w.heap.size w) o1) o2)
  refine (placed_calls A0 c0 L A1 c1 F A2 c2 La A3 c3 Fo b _ ⟨Kd.C_below H0.out.1 (hbW _ _), H0.out.2⟩ ⟨Kd.C_below H1.out.1 (hbW _ _), H1.out.2⟩ ⟨Kd.C_below H2.out.1 (hbW _ _), H2.out.2⟩ ⟨Kd.C_below H3.out.1 (hbW _ _), H3.out.2⟩ HN.out).mono ?_
  rintro e w1 ⟨rfl, hb⟩
  have HB := Aside0.mk (show RB w w.heap.size (.slice A0 L.length c0) (.slice A1 F.length c1) (.slice A2 La.length c2) (.slice A3 Fo.length c3) b w1 from
    ⟨below_step (hbW _ _) hb, (hb.block _ (by simp; omega)).trans (by rw [heap_alloc_old _ _ (by simp)]; exact heap_alloc_new _ _), (hb.block _ (by simp)).trans (by have := heap_alloc_new (w.alloc (.cells #[.slice A0 L.length c0, .slice A1 F.length c1, .slice A2 La.length c2, .slice A3 Fo.length c3, .bool b] 42)) (.cells #[.slice none 0 0, .slice none 0 0, .slice none 0 0, .slice none 0 0, .bool false] 42); simpa using this)⟩)
  clear hb
  -- the refusal, from any world
  obtain ⟨f0, f1, f2, f3, f4⟩ := HB.out.held
  cases hP : placedB L F La Fo with
  | false =>
    have HP : Aside0 (revOk L F La Fo = false) := ⟨by simp [revOk, hP]⟩
    clear hP
    have z0 := (blk_cell HB.out.res 0).trans rfl
    have z1 := (blk_cell HB.out.res 1).trans rfl
    have z2 := (blk_cell HB.out.res 2).trans rfl
    have z3 := (blk_cell HB.out.res 3).trans rfl
    have z4 := (blk_cell HB.out.res 4).trans rfl
    have y0 := blk_frozen HB.out.res 0
    have y1 := blk_frozen HB.out.res 1
    have y2 := blk_frozen HB.out.res 2
    have y3 := blk_frozen HB.out.res 3
    have y4 := blk_frozen HB.out.res 4
    go_wp2_with fail
    refine bodyPost_ret (results_cell_row rfl _ _ (w.heap.size + 1) 42 #[.slice none 0 0, .slice none 0 0, .slice none 0 0, .slice none 0 0, .bool false] (0, 0) _ rfl (blk_put (blk_put (blk_put (blk_put (blk_put HB.out.res 0 _ rfl) 1 _ rfl) 2 _ rfl) 3 _ rfl) 4 _ rfl) Tryd.underlying42 rfl (by kernel_rfl)) rfl ?_
    refine ⟨_, _, _, _, by rw [HP.out]; rfl, by rw [HP.out]; exact Kd.R_nil _ _ _ _ _, by rw [HP.out]; exact Kd.R_nil _ _ _ _ _, by rw [HP.out]; exact Kd.R_nil _ _ _ _ _, by rw [HP.out]; exact Kd.R_nil _ _ _ _ _, ?_⟩
    exact (((((HB.out.below.setCell (Nat.le_succ _) _).setCell (Nat.le_succ _) _).setCell (Nat.le_succ _) _).setCell (Nat.le_succ _) _).setCell (Nat.le_succ _) _)
  | true =>
    have HP := Aside0.mk hP
    clear hP
    go_wp2_with fail
    refine (places_all.calls A0 c0 L (fun _ => True) A1 c1 F (fun _ => True) A2 c2 La (fun _ => True) A3 c3 Fo b (F :: La :: Fo) _ (Kd.C_below H0.out.1 HB.out.below) H0.out.2
      ⟨_, _, rfl, H1.out.2, Kd.F_mono (Kd.C_F (Kd.heap_int .i64) (Kd.C_below H1.out.1 HB.out.below)) (fun _ _ => trivial)⟩
      ⟨_, _, rfl, H2.out.2, Kd.F_mono (Kd.C_F (Kd.heap_int .i64) (Kd.C_below H2.out.1 HB.out.below)) (fun _ _ => trivial)⟩
      ⟨_, _, rfl, H3.out.2, Kd.F_mono (Kd.C_F (Kd.heap_slice 3 (Kd.heap_int .i64)) (Kd.C_below H3.out.1 HB.out.below)) (fun _ _ => trivial)⟩
      (by unfold places_all.f; simp only [Option.bind_some]; rw [if_pos (by have := HN.out; simp; omega)]; rfl)).mono ?_
    rintro e w2 ⟨v, rfl, hv, hb⟩
    obtain ⟨Av, cv, rfl, hv1, hv2⟩ := Kd.N_reads hv
    replace HB := Aside0.mk (HB.out.step hb)
    have HV := Aside0.mk hv2
    clear hb hv hv1 hv2 f0 f1 f2 f3 f4
    obtain ⟨f0, f1, f2, f3, f4⟩ := HB.out.held
    go_wp2_with fail
    refine (containsFunc_list 81 #[.pointer (some ⟨w.heap.size, 0, none⟩)] (enters_of Tryd.func81 (by kernel_rfl) rfl) (fun l => !risesB L.length (-1) l) Av cv (F :: La :: Fo) w2 HV.out
      (fun W x A' c' hb hx hC hcx => turned_calls w.heap.size A' c' x _ L.length c0 W hC hcx A0 rfl ((hb.cell (p := ⟨w.heap.size, 0, none⟩) (blk_lt HB.out.old)).trans f0))).mono ?_
    rintro e w3 ⟨rfl, hb⟩
    replace HB := Aside0.mk (HB.out.step hb)
    clear hb f0 f1 f2 f3 f4
    have hall : Aside0 (revOk L F La Fo = !((F :: La :: Fo).any (fun l => !risesB L.length (-1) l))) := ⟨by rw [List.any_eq_not_all_not]; simp [revOk, HP.out]⟩
    generalize ((F :: La :: Fo).any (fun l => !risesB L.length (-1) l)) = q at hall
    cases q with
    | true =>
      have z0 := (blk_cell HB.out.res 0).trans rfl
      have z1 := (blk_cell HB.out.res 1).trans rfl
      have z2 := (blk_cell HB.out.res 2).trans rfl
      have z3 := (blk_cell HB.out.res 3).trans rfl
      have z4 := (blk_cell HB.out.res 4).trans rfl
      have y0 := blk_frozen HB.out.res 0
      have y1 := blk_frozen HB.out.res 1
      have y2 := blk_frozen HB.out.res 2
      have y3 := blk_frozen HB.out.res 3
      have y4 := blk_frozen HB.out.res 4
      go_wp2_with fail
      refine bodyPost_ret (results_cell_row rfl _ _ (w.heap.size + 1) 42 #[.slice none 0 0, .slice none 0 0, .slice none 0 0, .slice none 0 0, .bool false] (0, 0) _ rfl (blk_put (blk_put (blk_put (blk_put (blk_put HB.out.res 0 _ rfl) 1 _ rfl) 2 _ rfl) 3 _ rfl) 4 _ rfl) Tryd.underlying42 rfl (by kernel_rfl)) rfl ?_
      have HP' : revOk L F La Fo = false := hall.out
      refine ⟨_, _, _, _, by rw [HP']; rfl, by rw [HP']; exact Kd.R_nil _ _ _ _ _, by rw [HP']; exact Kd.R_nil _ _ _ _ _, by rw [HP']; exact Kd.R_nil _ _ _ _ _, by rw [HP']; exact Kd.R_nil _ _ _ _ _, ?_⟩
      exact (((((HB.out.below.setCell (Nat.le_succ _) _).setCell (Nat.le_succ _) _).setCell (Nat.le_succ _) _).setCell (Nat.le_succ _) _).setCell (Nat.le_succ _) _)
    | false =>
      have hOk : Aside0 (revOk L F La Fo = true) := ⟨hall.out⟩
      clear hall HV
      go_upto_region 3 with fail
      go_cut [3] (fun v3_ wc => ∃ (A2' : Option Addr) (c2' : Nat) (A1' : Option Addr) (c1' : Nat) (A3' : Option Addr) (c3' g3 b3 : Nat), v3_ = .pointer (some ⟨b3, 0, none⟩) ∧ Aside0 (RB w w.heap.size (.slice A0 L.length c0) (.slice A1 F.length c1) (.slice A2 La.length c2) (.slice A3 Fo.length c3) b wc) ∧ Aside0 (Kd.R kI 3 wc w.heap.size (fun _ => True) (.slice A2' La.length c2') La) ∧ Aside0 (Kd.R kI 3 wc w.heap.size (fun _ => True) (.slice A1' F.length c1') F) ∧ Aside0 (Kd.S kL 25 wc w.heap.size (fun k => k = g3) (.slice A3' L.length c3') (List.replicate L.length []) ∧ (.slice A3' L.length c3' : Value).ownBlock = some g3) ∧ Aside0 (wc.heap[b3]? = some (.cells #[.slice none 0 0, .slice A2' La.length c2', .slice A1' F.length c1', .slice A3' L.length c3', .bool b] 42 (0, 0)) ∧ w.heap.size + 1 < b3))
      case first =>
        replace HB := Aside0.mk (HB.out.step (below_drew (Below.refl _ w3)))
        refine start_ (n := 15) (S := fun w' => w'.cell? ⟨w.heap.size, 0, none⟩ = some (.slice A0 L.length c0) ∧ w'.cell? ⟨w.heap.size, 1, none⟩ = some (.slice A1 F.length c1) ∧ w'.cell? ⟨w.heap.size, 2, none⟩ = some (.slice A2 La.length c2) ∧ w'.cell? ⟨w.heap.size, 3, none⟩ = some (.slice A3 Fo.length c3) ∧ w'.cell? ⟨w.heap.size, 4, none⟩ = some (.bool b)) (ds := [14]) #[false, false, false, false, false, false, false, false, false, false, false, false, false, false, false] (by kernel_rfl) rfl rfl HB.out.held (fun hHeld => ?_)
        refine with_tabW rev.tab3 rev.bits3 (fun HT_ HW_ => ?_)
        generalize w3.drew = wn at HB hHeld ⊢
        refine pure_ (i := 0) (N := some 20) (v := ?_) (a' := ?_) #[true, false, false, false, false, false, false, false, false, false, false, false, false, false, false] rfl rfl (any_of HT_.out (by kernel_rfl)) (fun _ _ _ h => h) (Or.inl ⟨by rfl, ?_⟩) ?_ ?_
        rotate_left
        · intro w'
          go_simp
          with_reducible rfl
        rotate_left
        · simp only [Act.put, List.setIfInBounds_toArray, List.set_cons_zero, List.set_cons_succ, i64_w, i32_w]
          rfl
        refine pure_ (i := 3) (N := some 23) (v := ?_) (a' := ?_) #[true, false, false, true, false, false, false, false, false, false, false, false, false, false, false] rfl rfl (any_of HT_.out (by kernel_rfl)) (fun _ _ _ h => h) (Or.inl ⟨by rfl, ?_⟩) ?_ ?_
        rotate_left
        · intro w'
          go_simp
          with_reducible rfl
        rotate_left
        · simp only [Act.put, List.setIfInBounds_toArray, List.set_cons_zero, List.set_cons_succ, i64_w, i32_w]
          rfl
        refine pure_ (i := 6) (N := some 26) (v := ?_) (a' := ?_) #[true, false, false, true, false, false, true, false, false, false, false, false, false, false, false] rfl rfl (any_of HT_.out (by kernel_rfl)) (fun _ _ _ h => h) (Or.inl ⟨by rfl, ?_⟩) ?_ ?_
        rotate_left
        · intro w'
          go_simp
          with_reducible rfl
        rotate_left
        · simp only [Act.put, List.setIfInBounds_toArray, List.set_cons_zero, List.set_cons_succ, i64_w, i32_w]
          rfl
        refine pure_ (i := 8) (N := some 28) (v := ?_) (a' := ?_) #[true, false, false, true, false, false, true, false, true, false, false, false, false, false, false] rfl rfl (any_of HT_.out (by kernel_rfl)) (fun _ _ _ h => h) (Or.inl ⟨by rfl, ?_⟩) ?_ ?_
        rotate_left
        · intro w'
          go_simp
          with_reducible rfl
        rotate_left
        · simp only [Act.put, List.setIfInBounds_toArray, List.set_cons_zero, List.set_cons_succ, i64_w, i32_w]
          rfl
        refine take_ (i := 1) (N := some 21) (v := ?_) (a' := ?_) #[true, true, false, true, false, false, true, false, true, false, false, false, false, false, false] rfl rfl (take_ofW HT_.out HW_.out (by kernel_rfl)) (fun _ _ _ h => h) (Or.inl ⟨by rfl, ?_⟩) hHeld ?_ ?_
        rotate_left
        · rintro w' ⟨s0, s1, s2, s3, s4⟩
          go_simp
          with_reducible rfl
        rotate_left
        · simp only [Act.put, List.setIfInBounds_toArray, List.set_cons_zero, List.set_cons_succ, i64_w, i32_w]
          rfl
        refine take_ (i := 4) (N := some 24) (v := ?_) (a' := ?_) #[true, true, false, true, true, false, true, false, true, false, false, false, false, false, false] rfl rfl (take_ofW HT_.out HW_.out (by kernel_rfl)) (fun _ _ _ h => h) (Or.inl ⟨by rfl, ?_⟩) hHeld ?_ ?_
        rotate_left
        · rintro w' ⟨s0, s1, s2, s3, s4⟩
          go_simp
          with_reducible rfl
        rotate_left
        · simp only [Act.put, List.setIfInBounds_toArray, List.set_cons_zero, List.set_cons_succ, i64_w, i32_w]
          rfl
        refine take_ (i := 7) (N := some 27) (v := ?_) (a' := ?_) #[true, true, false, true, true, false, true, true, true, false, false, false, false, false, false] rfl rfl (take_ofW HT_.out HW_.out (by kernel_rfl)) (fun _ _ _ h => h) (Or.inl ⟨by rfl, ?_⟩) hHeld ?_ ?_
        rotate_left
        · rintro w' ⟨s0, s1, s2, s3, s4⟩
          go_simp
          with_reducible rfl
        rotate_left
        · simp only [Act.put, List.setIfInBounds_toArray, List.set_cons_zero, List.set_cons_succ, i64_w, i32_w]
          rfl
        refine take_ (i := 9) (N := some 29) (v := ?_) (a' := ?_) #[true, true, false, true, true, false, true, true, true, true, false, false, false, false, false] rfl rfl (take_ofW HT_.out HW_.out (by kernel_rfl)) (fun _ _ _ h => h) (Or.inl ⟨by rfl, ?_⟩) hHeld ?_ ?_
        rotate_left
        · rintro w' ⟨s0, s1, s2, s3, s4⟩
          go_simp
          with_reducible rfl
        rotate_left
        · simp only [Act.put, List.setIfInBounds_toArray, List.set_cons_zero, List.set_cons_succ, i64_w, i32_w]
          rfl
        refine pure_ (i := 10) (N := some 30) (v := ?_) (a' := ?_) #[true, true, false, true, true, false, true, true, true, true, true, false, false, false, false] rfl rfl (any_of HT_.out (by kernel_rfl)) (fun _ _ _ h => h) (Or.inl ⟨by rfl, ?_⟩) ?_ ?_
        rotate_left
        · intro w'
          go_simp
          with_reducible rfl
        rotate_left
        · simp only [Act.put, List.setIfInBounds_toArray, List.set_cons_zero, List.set_cons_succ, i64_w, i32_w]
          rfl
        refine join_ (σ := Value × Value × Value × Nat) 1 #[true, true, true, true, true, true, true, true, true, true, true, true, true, true, false] (fun s_ => [(22, s_.1), (25, s_.2.1), (31, s_.2.2.1), (3, .pointer (some ⟨s_.2.2.2, 0, none⟩)), (32, .agg #[.slice none 0 0, s_.1, s_.2.1, s_.2.2.1, .bool b])]) (fun s_ w' => Aside0 (RB w w.heap.size (.slice A0 L.length c0) (.slice A1 F.length c1) (.slice A2 La.length c2) (.slice A3 Fo.length c3) b w') ∧ Aside0 (Kd.R kI 3 w' w.heap.size (fun _ => True) s_.1 La) ∧ Aside0 (Kd.R kI 3 w' w.heap.size (fun _ => True) s_.2.1 F) ∧ Aside0 (∃ g, Kd.S kL 25 w' w.heap.size (fun k => k = g) s_.2.2.1 (List.replicate L.length []) ∧ s_.2.2.1.ownBlock = some g) ∧ Aside0 (w'.heap[s_.2.2.2]? = some (.cells #[.slice none 0 0, .slice none 0 0, .slice none 0 0, .slice none 0 0, .bool false] 42 (0, 0)) ∧ w.heap.size + 1 < s_.2.2.2)) ?_ ?_
        rotate_left
        · intro hCont
          refine three_ (i := 2) (j := 11) (k := 13) (Ni := some 22) (Nj := some 31) (Nk := some 3) #[true, true, true, true, true, false, true, true, true, true, true, false, false, false, false] #[true, true, false, true, true, false, true, true, true, true, true, true, false, false, false] #[true, true, false, true, true, false, true, true, true, true, true, false, false, true, false] rfl rfl rfl rfl rfl rfl (three_of HT_.out (by kernel_rfl)) (by decide) (by decide) (by decide) (fun K hK => ?_) (fun K hK => ?_) (fun K hK => ?_)
          · skip
            refine goes_ Tryd.func82 (by kernel_rfl) rfl #[.slice A2 La.length c2] (by rfl) rfl rfl (by (try simp only [List.map_toArray, List.map_cons, List.map_nil]); first | done | rfl) ?_
            refine (clone_calls A2 c2 La _ (Kd.C_below H2.out.1 HB.out.below) H2b.out).mono ?_
            rintro e wn ⟨v1, rfl, ho, hb⟩
            refine ⟨_, rfl, ?_⟩
            have K1 := Aside0.mk (Kd.R_lower ho HB.out.below.size)
            replace HB := Aside0.mk (HB.out.step hb)
            refine hK.out _ _ HB.out.held (fun hHeld => ?_)
            clear hK K hb ho
            refine norm_ (a' := ?_) ?_ ?_
            rotate_left
            · show Act.put _ (some 22) _ = _
              simp only [Act.put, List.setIfInBounds_toArray, List.set_cons_zero, List.set_cons_succ, i64_w, i32_w]
              rfl
            refine three_ (i := 5) (j := 11) (k := 13) (Ni := some 25) (Nj := some 31) (Nk := some 3) #[true, true, true, true, true, true, true, true, true, true, true, false, false, false, false] #[true, true, true, true, true, false, true, true, true, true, true, true, false, false, false] #[true, true, true, true, true, false, true, true, true, true, true, false, false, true, false] rfl rfl rfl rfl rfl rfl (three_of HT_.out (by kernel_rfl)) (by decide) (by decide) (by decide) (fun K hK => ?_) (fun K hK => ?_) (fun K hK => ?_)
            · skip
              refine goes_ Tryd.func82 (by kernel_rfl) rfl #[.slice A1 F.length c1] (by rfl) rfl rfl (by (try simp only [List.map_toArray, List.map_cons, List.map_nil]); first | done | rfl) ?_
              refine (clone_calls A1 c1 F _ (Kd.C_below H1.out.1 HB.out.below) H1b.out).mono ?_
              rintro e wn ⟨v2, rfl, ho, hb⟩
              refine ⟨_, rfl, ?_⟩
              have K2 := Aside0.mk (Kd.R_lower ho HB.out.below.size)
              replace K1 := Aside0.mk (Kd.R_below K1.out hb)
              replace HB := Aside0.mk (HB.out.step hb)
              refine hK.out _ _ HB.out.held (fun hHeld => ?_)
              clear hK K hb ho
              refine norm_ (a' := ?_) ?_ ?_
              rotate_left
              · show Act.put _ (some 25) _ = _
                simp only [Act.put, List.setIfInBounds_toArray, List.set_cons_zero, List.set_cons_succ, i64_w, i32_w]
                rfl
              refine two_ (i := 11) (j := 13) (Ni := some 31) (Nj := some 3) #[true, true, true, true, true, true, true, true, true, true, true, true, false, false, false] #[true, true, true, true, true, true, true, true, true, true, true, false, false, true, false] rfl rfl rfl rfl (two_of HT_.out (by kernel_rfl)) (by decide) (by decide) (fun K hK => ?_) (fun K hK => ?_)
              · skip
                refine Kd.S_make_step kL (w0 := w) w.heap.size 25 (by rfl) (N := 31) rfl 22 _ _ rfl (L.length : Int) rfl rfl Tryd.underlying22 (.slice none 0 0) 24 info25 rfl (by decide) (by decide) [] (ok := fun k => k = wn.heap.size) (okp := fun _ => False) ⟨_, rfl, Kd.R_nil _ _ _ _ _⟩ (fun _ h => h.elim) rfl (by omega) (by omega) HB.out.below HB.out.below.size ?_
                intro v3 wm ho hb0 hg hat
                have hb : Below wn.heap.size wn wm := ⟨hg.1, hg.2, hg.3, hg.4, fun k hk => hg.block k hk (by simp)⟩
                have K3 := Aside0.mk (show ∃ g, Kd.S kL 25 wm w.heap.size (fun k => k = g) v3 (List.replicate L.length []) ∧ v3.ownBlock = some g from ⟨wn.heap.size, by rw [Int.toNat_natCast] at ho; exact ho, by obtain ⟨bb, hbb, _⟩ := hat; rw [hbb, ho.elim (fun f h => h.1 bb hbb)]⟩)
                replace K1 := Aside0.mk (Kd.R_below K1.out hb)
                replace K2 := Aside0.mk (Kd.R_below K2.out hb)
                replace HB := Aside0.mk (HB.out.step hb)
                clear hb0 hg hat
                refine hK.out _ _ HB.out.held (fun hHeld => ?_)
                clear hK K hb ho
                refine norm_ (a' := ?_) ?_ ?_
                rotate_left
                · show Act.put _ (some 31) _ = _
                  simp only [Act.put, List.setIfInBounds_toArray, List.set_cons_zero, List.set_cons_succ, i64_w, i32_w]
                  rfl
                obtain ⟨wn, rfl⟩ : ∃ wn, wn = wm := ⟨_, rfl⟩
                obtain ⟨A2', c2', rfl⟩ := Kd.R_slice K1.out
                obtain ⟨A1', c1', rfl⟩ := Kd.R_slice K2.out
                obtain ⟨A3', c3', rfl⟩ : ∃ A c, v3 = .slice A L.length c := K3.out.elim (fun g h => by obtain ⟨A, c, e⟩ := Kd.S_slice h.1; rw [List.length_replicate] at e; exact ⟨A, c, e⟩)
                refine pure_ (i := 12) (N := some 32) (v := ?_) (a' := ?_) #[true, true, true, true, true, true, true, true, true, true, true, true, true, false, false] rfl rfl (any_of HT_.out (by kernel_rfl)) (fun _ _ _ h => h) (Or.inl ⟨by rfl, ?_⟩) ?_ ?_
                rotate_left
                · intro w'
                  go_simp
                  with_reducible rfl
                rotate_left
                · simp only [Act.put, List.setIfInBounds_toArray, List.set_cons_zero, List.set_cons_succ, i64_w, i32_w]
                  rfl
                refine one_ (i := 13) (N := some 3) #[true, true, true, true, true, true, true, true, true, true, true, true, true, true, false] rfl rfl (one_of HT_.out (by kernel_rfl)) (by decide) (fun K hK => ?_)
                refine box_step ?hg (N := 3) ?hd (cs := #[.slice none 0 0, .slice none 0 0, .slice none 0 0, .slice none 0 0, .bool false]) (t := 42) ?hr ?_; (case hd => rfl); (case hg => rfl); (case hr => first | (go_simp; done) | (go_simp; rfl))
                intro b3 hg wn hbox hb
                have K4 := Aside0.mk (And.intro hbox (show w.heap.size + 1 < b3 from by rw [hg]; exact blk_lt HB.out.res))
                replace K1 := Aside0.mk (Kd.R_below K1.out hb)
                replace K2 := Aside0.mk (Kd.R_below K2.out hb)
                replace K3 := Aside0.mk (show ∃ g, Kd.S kL 25 _ w.heap.size (fun k => k = g) (.slice A3' L.length c3' : Value) (List.replicate L.length []) ∧ (.slice A3' L.length c3' : Value).ownBlock = some g from K3.out.elim (fun g h => ⟨g, Kd.S_below h.1 hb, h.2⟩))
                replace HB := Aside0.mk (HB.out.step hb)
                refine hK.out _ _ HB.out.held (fun hHeld => ?_)
                clear hK K hb hbox hg
                refine norm_ (a' := ?_) ?_ ?_
                rotate_left
                · show Act.put _ (some 3) _ = _
                  simp only [Act.put, List.setIfInBounds_toArray, List.set_cons_zero, List.set_cons_succ, i64_w, i32_w]
                  rfl
                exact norm_ (by simp only [putAll, Act.put, List.setIfInBounds_toArray, List.set_cons_zero, List.set_cons_succ]) (hCont (.slice A2' La.length c2', .slice A1' F.length c1', .slice A3' L.length c3', b3) _ ⟨HB, K1, K2, K3, K4⟩)
              · skip
                refine box_step ?hg (N := 3) ?hd (cs := #[.slice none 0 0, .slice none 0 0, .slice none 0 0, .slice none 0 0, .bool false]) (t := 42) ?hr ?_; (case hd => rfl); (case hg => rfl); (case hr => first | (go_simp; done) | (go_simp; rfl))
                intro b3 hg wn hbox hb
                have K4 := Aside0.mk (And.intro hbox (show w.heap.size + 1 < b3 from by rw [hg]; exact blk_lt HB.out.res))
                replace K1 := Aside0.mk (Kd.R_below K1.out hb)
                replace K2 := Aside0.mk (Kd.R_below K2.out hb)
                replace HB := Aside0.mk (HB.out.step hb)
                refine hK.out _ _ HB.out.held (fun hHeld => ?_)
                clear hK K hb hbox hg
                refine norm_ (a' := ?_) ?_ ?_
                rotate_left
                · show Act.put _ (some 3) _ = _
                  simp only [Act.put, List.setIfInBounds_toArray, List.set_cons_zero, List.set_cons_succ, i64_w, i32_w]
                  rfl
                refine one_ (i := 11) (N := some 31) #[true, true, true, true, true, true, true, true, true, true, true, true, false, true, false] rfl rfl (one_of HT_.out (by kernel_rfl)) (by decide) (fun K hK => ?_)
                refine Kd.S_make_step kL (w0 := w) w.heap.size 25 (by rfl) (N := 31) rfl 22 _ _ rfl (L.length : Int) rfl rfl Tryd.underlying22 (.slice none 0 0) 24 info25 rfl (by decide) (by decide) [] (ok := fun k => k = wn.heap.size) (okp := fun _ => False) ⟨_, rfl, Kd.R_nil _ _ _ _ _⟩ (fun _ h => h.elim) rfl (by omega) (by omega) HB.out.below HB.out.below.size ?_
                intro v3 wm ho hb0 hg hat
                have hb : Below wn.heap.size wn wm := ⟨hg.1, hg.2, hg.3, hg.4, fun k hk => hg.block k hk (by simp)⟩
                have K3 := Aside0.mk (show ∃ g, Kd.S kL 25 wm w.heap.size (fun k => k = g) v3 (List.replicate L.length []) ∧ v3.ownBlock = some g from ⟨wn.heap.size, by rw [Int.toNat_natCast] at ho; exact ho, by obtain ⟨bb, hbb, _⟩ := hat; rw [hbb, ho.elim (fun f h => h.1 bb hbb)]⟩)
                replace K1 := Aside0.mk (Kd.R_below K1.out hb)
                replace K2 := Aside0.mk (Kd.R_below K2.out hb)
                replace K4 := Aside0.mk (And.intro ((hb.block _ (blk_lt K4.out.1)).trans K4.out.1) K4.out.2)
                replace HB := Aside0.mk (HB.out.step hb)
                clear hb0 hg hat
                refine hK.out _ _ HB.out.held (fun hHeld => ?_)
                clear hK K hb ho
                refine norm_ (a' := ?_) ?_ ?_
                rotate_left
                · show Act.put _ (some 31) _ = _
                  simp only [Act.put, List.setIfInBounds_toArray, List.set_cons_zero, List.set_cons_succ, i64_w, i32_w]
                  rfl
                obtain ⟨wn, rfl⟩ : ∃ wn, wn = wm := ⟨_, rfl⟩
                obtain ⟨A2', c2', rfl⟩ := Kd.R_slice K1.out
                obtain ⟨A1', c1', rfl⟩ := Kd.R_slice K2.out
                obtain ⟨A3', c3', rfl⟩ : ∃ A c, v3 = .slice A L.length c := K3.out.elim (fun g h => by obtain ⟨A, c, e⟩ := Kd.S_slice h.1; rw [List.length_replicate] at e; exact ⟨A, c, e⟩)
                refine pure_ (i := 12) (N := some 32) (v := ?_) (a' := ?_) #[true, true, true, true, true, true, true, true, true, true, true, true, true, true, false] rfl rfl (any_of HT_.out (by kernel_rfl)) (fun _ _ _ h => h) (Or.inl ⟨by rfl, ?_⟩) ?_ ?_
                rotate_left
                · intro w'
                  go_simp
                  with_reducible rfl
                rotate_left
                · simp only [Act.put, List.setIfInBounds_toArray, List.set_cons_zero, List.set_cons_succ, i64_w, i32_w]
                  rfl
                exact norm_ (by simp only [putAll, Act.put, List.setIfInBounds_toArray, List.set_cons_zero, List.set_cons_succ]) (hCont (.slice A2' La.length c2', .slice A1' F.length c1', .slice A3' L.length c3', b3) _ ⟨HB, K1, K2, K3, K4⟩)
            · skip
              refine Kd.S_make_step kL (w0 := w) w.heap.size 25 (by rfl) (N := 31) rfl 22 _ _ rfl (L.length : Int) rfl rfl Tryd.underlying22 (.slice none 0 0) 24 info25 rfl (by decide) (by decide) [] (ok := fun k => k = wn.heap.size) (okp := fun _ => False) ⟨_, rfl, Kd.R_nil _ _ _ _ _⟩ (fun _ h => h.elim) rfl (by omega) (by omega) HB.out.below HB.out.below.size ?_
              intro v3 wm ho hb0 hg hat
              have hb : Below wn.heap.size wn wm := ⟨hg.1, hg.2, hg.3, hg.4, fun k hk => hg.block k hk (by simp)⟩
              have K3 := Aside0.mk (show ∃ g, Kd.S kL 25 wm w.heap.size (fun k => k = g) v3 (List.replicate L.length []) ∧ v3.ownBlock = some g from ⟨wn.heap.size, by rw [Int.toNat_natCast] at ho; exact ho, by obtain ⟨bb, hbb, _⟩ := hat; rw [hbb, ho.elim (fun f h => h.1 bb hbb)]⟩)
              replace K1 := Aside0.mk (Kd.R_below K1.out hb)
              replace HB := Aside0.mk (HB.out.step hb)
              clear hb0 hg hat
              refine hK.out _ _ HB.out.held (fun hHeld => ?_)
              clear hK K hb ho
              refine norm_ (a' := ?_) ?_ ?_
              rotate_left
              · show Act.put _ (some 31) _ = _
                simp only [Act.put, List.setIfInBounds_toArray, List.set_cons_zero, List.set_cons_succ, i64_w, i32_w]
                rfl
              obtain ⟨wn, rfl⟩ : ∃ wn, wn = wm := ⟨_, rfl⟩
              refine two_ (i := 5) (j := 13) (Ni := some 25) (Nj := some 3) #[true, true, true, true, true, true, true, true, true, true, true, true, false, false, false] #[true, true, true, true, true, false, true, true, true, true, true, true, false, true, false] rfl rfl rfl rfl (two_of HT_.out (by kernel_rfl)) (by decide) (by decide) (fun K hK => ?_) (fun K hK => ?_)
              · skip
                refine goes_ Tryd.func82 (by kernel_rfl) rfl #[.slice A1 F.length c1] (by rfl) rfl rfl (by (try simp only [List.map_toArray, List.map_cons, List.map_nil]); first | done | rfl) ?_
                refine (clone_calls A1 c1 F _ (Kd.C_below H1.out.1 HB.out.below) H1b.out).mono ?_
                rintro e wn ⟨v2, rfl, ho, hb⟩
                refine ⟨_, rfl, ?_⟩
                have K2 := Aside0.mk (Kd.R_lower ho HB.out.below.size)
                replace K1 := Aside0.mk (Kd.R_below K1.out hb)
                replace K3 := Aside0.mk (show ∃ g, Kd.S kL 25 _ w.heap.size (fun k => k = g) v3 (List.replicate L.length []) ∧ v3.ownBlock = some g from K3.out.elim (fun g h => ⟨g, Kd.S_below h.1 hb, h.2⟩))
                replace HB := Aside0.mk (HB.out.step hb)
                refine hK.out _ _ HB.out.held (fun hHeld => ?_)
                clear hK K hb ho
                refine norm_ (a' := ?_) ?_ ?_
                rotate_left
                · show Act.put _ (some 25) _ = _
                  simp only [Act.put, List.setIfInBounds_toArray, List.set_cons_zero, List.set_cons_succ, i64_w, i32_w]
                  rfl
                obtain ⟨A2', c2', rfl⟩ := Kd.R_slice K1.out
                obtain ⟨A1', c1', rfl⟩ := Kd.R_slice K2.out
                obtain ⟨A3', c3', rfl⟩ : ∃ A c, v3 = .slice A L.length c := K3.out.elim (fun g h => by obtain ⟨A, c, e⟩ := Kd.S_slice h.1; rw [List.length_replicate] at e; exact ⟨A, c, e⟩)
                refine pure_ (i := 12) (N := some 32) (v := ?_) (a' := ?_) #[true, true, true, true, true, true, true, true, true, true, true, true, true, false, false] rfl rfl (any_of HT_.out (by kernel_rfl)) (fun _ _ _ h => h) (Or.inl ⟨by rfl, ?_⟩) ?_ ?_
                rotate_left
                · intro w'
                  go_simp
                  with_reducible rfl
                rotate_left
                · simp only [Act.put, List.setIfInBounds_toArray, List.set_cons_zero, List.set_cons_succ, i64_w, i32_w]
                  rfl
                refine one_ (i := 13) (N := some 3) #[true, true, true, true, true, true, true, true, true, true, true, true, true, true, false] rfl rfl (one_of HT_.out (by kernel_rfl)) (by decide) (fun K hK => ?_)
                refine box_step ?hg (N := 3) ?hd (cs := #[.slice none 0 0, .slice none 0 0, .slice none 0 0, .slice none 0 0, .bool false]) (t := 42) ?hr ?_; (case hd => rfl); (case hg => rfl); (case hr => first | (go_simp; done) | (go_simp; rfl))
                intro b3 hg wn hbox hb
                have K4 := Aside0.mk (And.intro hbox (show w.heap.size + 1 < b3 from by rw [hg]; exact blk_lt HB.out.res))
                replace K1 := Aside0.mk (Kd.R_below K1.out hb)
                replace K2 := Aside0.mk (Kd.R_below K2.out hb)
                replace K3 := Aside0.mk (show ∃ g, Kd.S kL 25 _ w.heap.size (fun k => k = g) (.slice A3' L.length c3' : Value) (List.replicate L.length []) ∧ (.slice A3' L.length c3' : Value).ownBlock = some g from K3.out.elim (fun g h => ⟨g, Kd.S_below h.1 hb, h.2⟩))
                replace HB := Aside0.mk (HB.out.step hb)
                refine hK.out _ _ HB.out.held (fun hHeld => ?_)
                clear hK K hb hbox hg
                refine norm_ (a' := ?_) ?_ ?_
                rotate_left
                · show Act.put _ (some 3) _ = _
                  simp only [Act.put, List.setIfInBounds_toArray, List.set_cons_zero, List.set_cons_succ, i64_w, i32_w]
                  rfl
                exact norm_ (by simp only [putAll, Act.put, List.setIfInBounds_toArray, List.set_cons_zero, List.set_cons_succ]) (hCont (.slice A2' La.length c2', .slice A1' F.length c1', .slice A3' L.length c3', b3) _ ⟨HB, K1, K2, K3, K4⟩)
              · skip
                refine box_step ?hg (N := 3) ?hd (cs := #[.slice none 0 0, .slice none 0 0, .slice none 0 0, .slice none 0 0, .bool false]) (t := 42) ?hr ?_; (case hd => rfl); (case hg => rfl); (case hr => first | (go_simp; done) | (go_simp; rfl))
                intro b3 hg wn hbox hb
                have K4 := Aside0.mk (And.intro hbox (show w.heap.size + 1 < b3 from by rw [hg]; exact blk_lt HB.out.res))
                replace K1 := Aside0.mk (Kd.R_below K1.out hb)
                replace K3 := Aside0.mk (show ∃ g, Kd.S kL 25 _ w.heap.size (fun k => k = g) v3 (List.replicate L.length []) ∧ v3.ownBlock = some g from K3.out.elim (fun g h => ⟨g, Kd.S_below h.1 hb, h.2⟩))
                replace HB := Aside0.mk (HB.out.step hb)
                refine hK.out _ _ HB.out.held (fun hHeld => ?_)
                clear hK K hb hbox hg
                refine norm_ (a' := ?_) ?_ ?_
                rotate_left
                · show Act.put _ (some 3) _ = _
                  simp only [Act.put, List.setIfInBounds_toArray, List.set_cons_zero, List.set_cons_succ, i64_w, i32_w]
                  rfl
                refine one_ (i := 5) (N := some 25) #[true, true, true, true, true, true, true, true, true, true, true, true, false, true, false] rfl rfl (one_of HT_.out (by kernel_rfl)) (by decide) (fun K hK => ?_)
                refine goes_ Tryd.func82 (by kernel_rfl) rfl #[.slice A1 F.length c1] (by rfl) rfl rfl (by (try simp only [List.map_toArray, List.map_cons, List.map_nil]); first | done | rfl) ?_
                refine (clone_calls A1 c1 F _ (Kd.C_below H1.out.1 HB.out.below) H1b.out).mono ?_
                rintro e wn ⟨v2, rfl, ho, hb⟩
                refine ⟨_, rfl, ?_⟩
                have K2 := Aside0.mk (Kd.R_lower ho HB.out.below.size)
                replace K1 := Aside0.mk (Kd.R_below K1.out hb)
                replace K3 := Aside0.mk (show ∃ g, Kd.S kL 25 _ w.heap.size (fun k => k = g) v3 (List.replicate L.length []) ∧ v3.ownBlock = some g from K3.out.elim (fun g h => ⟨g, Kd.S_below h.1 hb, h.2⟩))
                replace K4 := Aside0.mk (And.intro ((hb.block _ (blk_lt K4.out.1)).trans K4.out.1) K4.out.2)
                replace HB := Aside0.mk (HB.out.step hb)
                refine hK.out _ _ HB.out.held (fun hHeld => ?_)
                clear hK K hb ho
                refine norm_ (a' := ?_) ?_ ?_
                rotate_left
                · show Act.put _ (some 25) _ = _
                  simp only [Act.put, List.setIfInBounds_toArray, List.set_cons_zero, List.set_cons_succ, i64_w, i32_w]
                  rfl
                obtain ⟨A2', c2', rfl⟩ := Kd.R_slice K1.out
                obtain ⟨A1', c1', rfl⟩ := Kd.R_slice K2.out
                obtain ⟨A3', c3', rfl⟩ : ∃ A c, v3 = .slice A L.length c := K3.out.elim (fun g h => by obtain ⟨A, c, e⟩ := Kd.S_slice h.1; rw [List.length_replicate] at e; exact ⟨A, c, e⟩)
                refine pure_ (i := 12) (N := some 32) (v := ?_) (a' := ?_) #[true, true, true, true, true, true, true, true, true, true, true, true, true, true, false] rfl rfl (any_of HT_.out (by kernel_rfl)) (fun _ _ _ h => h) (Or.inl ⟨by rfl, ?_⟩) ?_ ?_
                rotate_left
                · intro w'
                  go_simp
                  with_reducible rfl
                rotate_left
                · simp only [Act.put, List.setIfInBounds_toArray, List.set_cons_zero, List.set_cons_succ, i64_w, i32_w]
                  rfl
                exact norm_ (by simp only [putAll, Act.put, List.setIfInBounds_toArray, List.set_cons_zero, List.set_cons_succ]) (hCont (.slice A2' La.length c2', .slice A1' F.length c1', .slice A3' L.length c3', b3) _ ⟨HB, K1, K2, K3, K4⟩)
            · skip
              refine box_step ?hg (N := 3) ?hd (cs := #[.slice none 0 0, .slice none 0 0, .slice none 0 0, .slice none 0 0, .bool false]) (t := 42) ?hr ?_; (case hd => rfl); (case hg => rfl); (case hr => first | (go_simp; done) | (go_simp; rfl))
              intro b3 hg wn hbox hb
              have K4 := Aside0.mk (And.intro hbox (show w.heap.size + 1 < b3 from by rw [hg]; exact blk_lt HB.out.res))
              replace K1 := Aside0.mk (Kd.R_below K1.out hb)
              replace HB := Aside0.mk (HB.out.step hb)
              refine hK.out _ _ HB.out.held (fun hHeld => ?_)
              clear hK K hb hbox hg
              refine norm_ (a' := ?_) ?_ ?_
              rotate_left
              · show Act.put _ (some 3) _ = _
                simp only [Act.put, List.setIfInBounds_toArray, List.set_cons_zero, List.set_cons_succ, i64_w, i32_w]
                rfl
              refine two_ (i := 5) (j := 11) (Ni := some 25) (Nj := some 31) #[true, true, true, true, true, true, true, true, true, true, true, false, false, true, false] #[true, true, true, true, true, false, true, true, true, true, true, true, false, true, false] rfl rfl rfl rfl (two_of HT_.out (by kernel_rfl)) (by decide) (by decide) (fun K hK => ?_) (fun K hK => ?_)
              · skip
                refine goes_ Tryd.func82 (by kernel_rfl) rfl #[.slice A1 F.length c1] (by rfl) rfl rfl (by (try simp only [List.map_toArray, List.map_cons, List.map_nil]); first | done | rfl) ?_
                refine (clone_calls A1 c1 F _ (Kd.C_below H1.out.1 HB.out.below) H1b.out).mono ?_
                rintro e wn ⟨v2, rfl, ho, hb⟩
                refine ⟨_, rfl, ?_⟩
                have K2 := Aside0.mk (Kd.R_lower ho HB.out.below.size)
                replace K1 := Aside0.mk (Kd.R_below K1.out hb)
                replace K4 := Aside0.mk (And.intro ((hb.block _ (blk_lt K4.out.1)).trans K4.out.1) K4.out.2)
                replace HB := Aside0.mk (HB.out.step hb)
                refine hK.out _ _ HB.out.held (fun hHeld => ?_)
                clear hK K hb ho
                refine norm_ (a' := ?_) ?_ ?_
                rotate_left
                · show Act.put _ (some 25) _ = _
                  simp only [Act.put, List.setIfInBounds_toArray, List.set_cons_zero, List.set_cons_succ, i64_w, i32_w]
                  rfl
                refine one_ (i := 11) (N := some 31) #[true, true, true, true, true, true, true, true, true, true, true, true, false, true, false] rfl rfl (one_of HT_.out (by kernel_rfl)) (by decide) (fun K hK => ?_)
                refine Kd.S_make_step kL (w0 := w) w.heap.size 25 (by rfl) (N := 31) rfl 22 _ _ rfl (L.length : Int) rfl rfl Tryd.underlying22 (.slice none 0 0) 24 info25 rfl (by decide) (by decide) [] (ok := fun k => k = wn.heap.size) (okp := fun _ => False) ⟨_, rfl, Kd.R_nil _ _ _ _ _⟩ (fun _ h => h.elim) rfl (by omega) (by omega) HB.out.below HB.out.below.size ?_
                intro v3 wm ho hb0 hg hat
                have hb : Below wn.heap.size wn wm := ⟨hg.1, hg.2, hg.3, hg.4, fun k hk => hg.block k hk (by simp)⟩
                have K3 := Aside0.mk (show ∃ g, Kd.S kL 25 wm w.heap.size (fun k => k = g) v3 (List.replicate L.length []) ∧ v3.ownBlock = some g from ⟨wn.heap.size, by rw [Int.toNat_natCast] at ho; exact ho, by obtain ⟨bb, hbb, _⟩ := hat; rw [hbb, ho.elim (fun f h => h.1 bb hbb)]⟩)
                replace K1 := Aside0.mk (Kd.R_below K1.out hb)
                replace K2 := Aside0.mk (Kd.R_below K2.out hb)
                replace K4 := Aside0.mk (And.intro ((hb.block _ (blk_lt K4.out.1)).trans K4.out.1) K4.out.2)
                replace HB := Aside0.mk (HB.out.step hb)
                clear hb0 hg hat
                refine hK.out _ _ HB.out.held (fun hHeld => ?_)
                clear hK K hb ho
                refine norm_ (a' := ?_) ?_ ?_
                rotate_left
                · show Act.put _ (some 31) _ = _
                  simp only [Act.put, List.setIfInBounds_toArray, List.set_cons_zero, List.set_cons_succ, i64_w, i32_w]
                  rfl
                obtain ⟨wn, rfl⟩ : ∃ wn, wn = wm := ⟨_, rfl⟩
                obtain ⟨A2', c2', rfl⟩ := Kd.R_slice K1.out
                obtain ⟨A1', c1', rfl⟩ := Kd.R_slice K2.out
                obtain ⟨A3', c3', rfl⟩ : ∃ A c, v3 = .slice A L.length c := K3.out.elim (fun g h => by obtain ⟨A, c, e⟩ := Kd.S_slice h.1; rw [List.length_replicate] at e; exact ⟨A, c, e⟩)
                refine pure_ (i := 12) (N := some 32) (v := ?_) (a' := ?_) #[true, true, true, true, true, true, true, true, true, true, true, true, true, true, false] rfl rfl (any_of HT_.out (by kernel_rfl)) (fun _ _ _ h => h) (Or.inl ⟨by rfl, ?_⟩) ?_ ?_
                rotate_left
                · intro w'
                  go_simp
                  with_reducible rfl
                rotate_left
                · simp only [Act.put, List.setIfInBounds_toArray, List.set_cons_zero, List.set_cons_succ, i64_w, i32_w]
                  rfl
                exact norm_ (by simp only [putAll, Act.put, List.setIfInBounds_toArray, List.set_cons_zero, List.set_cons_succ]) (hCont (.slice A2' La.length c2', .slice A1' F.length c1', .slice A3' L.length c3', b3) _ ⟨HB, K1, K2, K3, K4⟩)
              · skip
                refine Kd.S_make_step kL (w0 := w) w.heap.size 25 (by rfl) (N := 31) rfl 22 _ _ rfl (L.length : Int) rfl rfl Tryd.underlying22 (.slice none 0 0) 24 info25 rfl (by decide) (by decide) [] (ok := fun k => k = wn.heap.size) (okp := fun _ => False) ⟨_, rfl, Kd.R_nil _ _ _ _ _⟩ (fun _ h => h.elim) rfl (by omega) (by omega) HB.out.below HB.out.below.size ?_
                intro v3 wm ho hb0 hg hat
                have hb : Below wn.heap.size wn wm := ⟨hg.1, hg.2, hg.3, hg.4, fun k hk => hg.block k hk (by simp)⟩
                have K3 := Aside0.mk (show ∃ g, Kd.S kL 25 wm w.heap.size (fun k => k = g) v3 (List.replicate L.length []) ∧ v3.ownBlock = some g from ⟨wn.heap.size, by rw [Int.toNat_natCast] at ho; exact ho, by obtain ⟨bb, hbb, _⟩ := hat; rw [hbb, ho.elim (fun f h => h.1 bb hbb)]⟩)
                replace K1 := Aside0.mk (Kd.R_below K1.out hb)
                replace K4 := Aside0.mk (And.intro ((hb.block _ (blk_lt K4.out.1)).trans K4.out.1) K4.out.2)
                replace HB := Aside0.mk (HB.out.step hb)
                clear hb0 hg hat
                refine hK.out _ _ HB.out.held (fun hHeld => ?_)
                clear hK K hb ho
                refine norm_ (a' := ?_) ?_ ?_
                rotate_left
                · show Act.put _ (some 31) _ = _
                  simp only [Act.put, List.setIfInBounds_toArray, List.set_cons_zero, List.set_cons_succ, i64_w, i32_w]
                  rfl
                obtain ⟨wn, rfl⟩ : ∃ wn, wn = wm := ⟨_, rfl⟩
                refine one_ (i := 5) (N := some 25) #[true, true, true, true, true, true, true, true, true, true, true, true, false, true, false] rfl rfl (one_of HT_.out (by kernel_rfl)) (by decide) (fun K hK => ?_)
                refine goes_ Tryd.func82 (by kernel_rfl) rfl #[.slice A1 F.length c1] (by rfl) rfl rfl (by (try simp only [List.map_toArray, List.map_cons, List.map_nil]); first | done | rfl) ?_
                refine (clone_calls A1 c1 F _ (Kd.C_below H1.out.1 HB.out.below) H1b.out).mono ?_
                rintro e wn ⟨v2, rfl, ho, hb⟩
                refine ⟨_, rfl, ?_⟩
                have K2 := Aside0.mk (Kd.R_lower ho HB.out.below.size)
                replace K1 := Aside0.mk (Kd.R_below K1.out hb)
                replace K3 := Aside0.mk (show ∃ g, Kd.S kL 25 _ w.heap.size (fun k => k = g) v3 (List.replicate L.length []) ∧ v3.ownBlock = some g from K3.out.elim (fun g h => ⟨g, Kd.S_below h.1 hb, h.2⟩))
                replace K4 := Aside0.mk (And.intro ((hb.block _ (blk_lt K4.out.1)).trans K4.out.1) K4.out.2)
                replace HB := Aside0.mk (HB.out.step hb)
                refine hK.out _ _ HB.out.held (fun hHeld => ?_)
                clear hK K hb ho
                refine norm_ (a' := ?_) ?_ ?_
                rotate_left
                · show Act.put _ (some 25) _ = _
                  simp only [Act.put, List.setIfInBounds_toArray, List.set_cons_zero, List.set_cons_succ, i64_w, i32_w]
                  rfl
                obtain ⟨A2', c2', rfl⟩ := Kd.R_slice K1.out
                obtain ⟨A1', c1', rfl⟩ := Kd.R_slice K2.out
                obtain ⟨A3', c3', rfl⟩ : ∃ A c, v3 = .slice A L.length c := K3.out.elim (fun g h => by obtain ⟨A, c, e⟩ := Kd.S_slice h.1; rw [List.length_replicate] at e; exact ⟨A, c, e⟩)
                refine pure_ (i := 12) (N := some 32) (v := ?_) (a' := ?_) #[true, true, true, true, true, true, true, true, true, true, true, true, true, true, false] rfl rfl (any_of HT_.out (by kernel_rfl)) (fun _ _ _ h => h) (Or.inl ⟨by rfl, ?_⟩) ?_ ?_
                rotate_left
                · intro w'
                  go_simp
                  with_reducible rfl
                rotate_left
                · simp only [Act.put, List.setIfInBounds_toArray, List.set_cons_zero, List.set_cons_succ, i64_w, i32_w]
                  rfl
                exact norm_ (by simp only [putAll, Act.put, List.setIfInBounds_toArray, List.set_cons_zero, List.set_cons_succ]) (hCont (.slice A2' La.length c2', .slice A1' F.length c1', .slice A3' L.length c3', b3) _ ⟨HB, K1, K2, K3, K4⟩)
          · skip
            refine Kd.S_make_step kL (w0 := w) w.heap.size 25 (by rfl) (N := 31) rfl 22 _ _ rfl (L.length : Int) rfl rfl Tryd.underlying22 (.slice none 0 0) 24 info25 rfl (by decide) (by decide) [] (ok := fun k => k = wn.heap.size) (okp := fun _ => False) ⟨_, rfl, Kd.R_nil _ _ _ _ _⟩ (fun _ h => h.elim) rfl (by omega) (by omega) HB.out.below HB.out.below.size ?_
            intro v3 wm ho hb0 hg hat
            have hb : Below wn.heap.size wn wm := ⟨hg.1, hg.2, hg.3, hg.4, fun k hk => hg.block k hk (by simp)⟩
            have K3 := Aside0.mk (show ∃ g, Kd.S kL 25 wm w.heap.size (fun k => k = g) v3 (List.replicate L.length []) ∧ v3.ownBlock = some g from ⟨wn.heap.size, by rw [Int.toNat_natCast] at ho; exact ho, by obtain ⟨bb, hbb, _⟩ := hat; rw [hbb, ho.elim (fun f h => h.1 bb hbb)]⟩)
            replace HB := Aside0.mk (HB.out.step hb)
            clear hb0 hg hat
            refine hK.out _ _ HB.out.held (fun hHeld => ?_)
            clear hK K hb ho
            refine norm_ (a' := ?_) ?_ ?_
            rotate_left
            · show Act.put _ (some 31) _ = _
              simp only [Act.put, List.setIfInBounds_toArray, List.set_cons_zero, List.set_cons_succ, i64_w, i32_w]
              rfl
            obtain ⟨wn, rfl⟩ : ∃ wn, wn = wm := ⟨_, rfl⟩
            refine two_ (i := 2) (j := 13) (Ni := some 22) (Nj := some 3) #[true, true, true, true, true, false, true, true, true, true, true, true, false, false, false] #[true, true, false, true, true, false, true, true, true, true, true, true, false, true, false] rfl rfl rfl rfl (two_of HT_.out (by kernel_rfl)) (by decide) (by decide) (fun K hK => ?_) (fun K hK => ?_)
            · skip
              refine goes_ Tryd.func82 (by kernel_rfl) rfl #[.slice A2 La.length c2] (by rfl) rfl rfl (by (try simp only [List.map_toArray, List.map_cons, List.map_nil]); first | done | rfl) ?_
              refine (clone_calls A2 c2 La _ (Kd.C_below H2.out.1 HB.out.below) H2b.out).mono ?_
              rintro e wn ⟨v1, rfl, ho, hb⟩
              refine ⟨_, rfl, ?_⟩
              have K1 := Aside0.mk (Kd.R_lower ho HB.out.below.size)
              replace K3 := Aside0.mk (show ∃ g, Kd.S kL 25 _ w.heap.size (fun k => k = g) v3 (List.replicate L.length []) ∧ v3.ownBlock = some g from K3.out.elim (fun g h => ⟨g, Kd.S_below h.1 hb, h.2⟩))
              replace HB := Aside0.mk (HB.out.step hb)
              refine hK.out _ _ HB.out.held (fun hHeld => ?_)
              clear hK K hb ho
              refine norm_ (a' := ?_) ?_ ?_
              rotate_left
              · show Act.put _ (some 22) _ = _
                simp only [Act.put, List.setIfInBounds_toArray, List.set_cons_zero, List.set_cons_succ, i64_w, i32_w]
                rfl
              refine two_ (i := 5) (j := 13) (Ni := some 25) (Nj := some 3) #[true, true, true, true, true, true, true, true, true, true, true, true, false, false, false] #[true, true, true, true, true, false, true, true, true, true, true, true, false, true, false] rfl rfl rfl rfl (two_of HT_.out (by kernel_rfl)) (by decide) (by decide) (fun K hK => ?_) (fun K hK => ?_)
              · skip
                refine goes_ Tryd.func82 (by kernel_rfl) rfl #[.slice A1 F.length c1] (by rfl) rfl rfl (by (try simp only [List.map_toArray, List.map_cons, List.map_nil]); first | done | rfl) ?_
                refine (clone_calls A1 c1 F _ (Kd.C_below H1.out.1 HB.out.below) H1b.out).mono ?_
                rintro e wn ⟨v2, rfl, ho, hb⟩
                refine ⟨_, rfl, ?_⟩
                have K2 := Aside0.mk (Kd.R_lower ho HB.out.below.size)
                replace K1 := Aside0.mk (Kd.R_below K1.out hb)
                replace K3 := Aside0.mk (show ∃ g, Kd.S kL 25 _ w.heap.size (fun k => k = g) v3 (List.replicate L.length []) ∧ v3.ownBlock = some g from K3.out.elim (fun g h => ⟨g, Kd.S_below h.1 hb, h.2⟩))
                replace HB := Aside0.mk (HB.out.step hb)
                refine hK.out _ _ HB.out.held (fun hHeld => ?_)
                clear hK K hb ho
                refine norm_ (a' := ?_) ?_ ?_
                rotate_left
                · show Act.put _ (some 25) _ = _
                  simp only [Act.put, List.setIfInBounds_toArray, List.set_cons_zero, List.set_cons_succ, i64_w, i32_w]
                  rfl
                obtain ⟨A2', c2', rfl⟩ := Kd.R_slice K1.out
                obtain ⟨A1', c1', rfl⟩ := Kd.R_slice K2.out
                obtain ⟨A3', c3', rfl⟩ : ∃ A c, v3 = .slice A L.length c := K3.out.elim (fun g h => by obtain ⟨A, c, e⟩ := Kd.S_slice h.1; rw [List.length_replicate] at e; exact ⟨A, c, e⟩)
                refine pure_ (i := 12) (N := some 32) (v := ?_) (a' := ?_) #[true, true, true, true, true, true, true, true, true, true, true, true, true, false, false] rfl rfl (any_of HT_.out (by kernel_rfl)) (fun _ _ _ h => h) (Or.inl ⟨by rfl, ?_⟩) ?_ ?_
                rotate_left
                · intro w'
                  go_simp
                  with_reducible rfl
                rotate_left
                · simp only [Act.put, List.setIfInBounds_toArray, List.set_cons_zero, List.set_cons_succ, i64_w, i32_w]
                  rfl
                refine one_ (i := 13) (N := some 3) #[true, true, true, true, true, true, true, true, true, true, true, true, true, true, false] rfl rfl (one_of HT_.out (by kernel_rfl)) (by decide) (fun K hK => ?_)
                refine box_step ?hg (N := 3) ?hd (cs := #[.slice none 0 0, .slice none 0 0, .slice none 0 0, .slice none 0 0, .bool false]) (t := 42) ?hr ?_; (case hd => rfl); (case hg => rfl); (case hr => first | (go_simp; done) | (go_simp; rfl))
                intro b3 hg wn hbox hb
                have K4 := Aside0.mk (And.intro hbox (show w.heap.size + 1 < b3 from by rw [hg]; exact blk_lt HB.out.res))
                replace K1 := Aside0.mk (Kd.R_below K1.out hb)
                replace K2 := Aside0.mk (Kd.R_below K2.out hb)
                replace K3 := Aside0.mk (show ∃ g, Kd.S kL 25 _ w.heap.size (fun k => k = g) (.slice A3' L.length c3' : Value) (List.replicate L.length []) ∧ (.slice A3' L.length c3' : Value).ownBlock = some g from K3.out.elim (fun g h => ⟨g, Kd.S_below h.1 hb, h.2⟩))
                replace HB := Aside0.mk (HB.out.step hb)
                refine hK.out _ _ HB.out.held (fun hHeld => ?_)
                clear hK K hb hbox hg
                refine norm_ (a' := ?_) ?_ ?_
                rotate_left
                · show Act.put _ (some 3) _ = _
                  simp only [Act.put, List.setIfInBounds_toArray, List.set_cons_zero, List.set_cons_succ, i64_w, i32_w]
                  rfl
                exact norm_ (by simp only [putAll, Act.put, List.setIfInBounds_toArray, List.set_cons_zero, List.set_cons_succ]) (hCont (.slice A2' La.length c2', .slice A1' F.length c1', .slice A3' L.length c3', b3) _ ⟨HB, K1, K2, K3, K4⟩)
              · skip
                refine box_step ?hg (N := 3) ?hd (cs := #[.slice none 0 0, .slice none 0 0, .slice none 0 0, .slice none 0 0, .bool false]) (t := 42) ?hr ?_; (case hd => rfl); (case hg => rfl); (case hr => first | (go_simp; done) | (go_simp; rfl))
                intro b3 hg wn hbox hb
                have K4 := Aside0.mk (And.intro hbox (show w.heap.size + 1 < b3 from by rw [hg]; exact blk_lt HB.out.res))
                replace K1 := Aside0.mk (Kd.R_below K1.out hb)
                replace K3 := Aside0.mk (show ∃ g, Kd.S kL 25 _ w.heap.size (fun k => k = g) v3 (List.replicate L.length []) ∧ v3.ownBlock = some g from K3.out.elim (fun g h => ⟨g, Kd.S_below h.1 hb, h.2⟩))
                replace HB := Aside0.mk (HB.out.step hb)
                refine hK.out _ _ HB.out.held (fun hHeld => ?_)
                clear hK K hb hbox hg
                refine norm_ (a' := ?_) ?_ ?_
                rotate_left
                · show Act.put _ (some 3) _ = _
                  simp only [Act.put, List.setIfInBounds_toArray, List.set_cons_zero, List.set_cons_succ, i64_w, i32_w]
                  rfl
                refine one_ (i := 5) (N := some 25) #[true, true, true, true, true, true, true, true, true, true, true, true, false, true, false] rfl rfl (one_of HT_.out (by kernel_rfl)) (by decide) (fun K hK => ?_)
                refine goes_ Tryd.func82 (by kernel_rfl) rfl #[.slice A1 F.length c1] (by rfl) rfl rfl (by (try simp only [List.map_toArray, List.map_cons, List.map_nil]); first | done | rfl) ?_
                refine (clone_calls A1 c1 F _ (Kd.C_below H1.out.1 HB.out.below) H1b.out).mono ?_
                rintro e wn ⟨v2, rfl, ho, hb⟩
                refine ⟨_, rfl, ?_⟩
                have K2 := Aside0.mk (Kd.R_lower ho HB.out.below.size)
                replace K1 := Aside0.mk (Kd.R_below K1.out hb)
                replace K3 := Aside0.mk (show ∃ g, Kd.S kL 25 _ w.heap.size (fun k => k = g) v3 (List.replicate L.length []) ∧ v3.ownBlock = some g from K3.out.elim (fun g h => ⟨g, Kd.S_below h.1 hb, h.2⟩))
                replace K4 := Aside0.mk (And.intro ((hb.block _ (blk_lt K4.out.1)).trans K4.out.1) K4.out.2)
                replace HB := Aside0.mk (HB.out.step hb)
                refine hK.out _ _ HB.out.held (fun hHeld => ?_)
                clear hK K hb ho
                refine norm_ (a' := ?_) ?_ ?_
                rotate_left
                · show Act.put _ (some 25) _ = _
                  simp only [Act.put, List.setIfInBounds_toArray, List.set_cons_zero, List.set_cons_succ, i64_w, i32_w]
                  rfl
                obtain ⟨A2', c2', rfl⟩ := Kd.R_slice K1.out
                obtain ⟨A1', c1', rfl⟩ := Kd.R_slice K2.out
                obtain ⟨A3', c3', rfl⟩ : ∃ A c, v3 = .slice A L.length c := K3.out.elim (fun g h => by obtain ⟨A, c, e⟩ := Kd.S_slice h.1; rw [List.length_replicate] at e; exact ⟨A, c, e⟩)
                refine pure_ (i := 12) (N := some 32) (v := ?_) (a' := ?_) #[true, true, true, true, true, true, true, true, true, true, true, true, true, true, false] rfl rfl (any_of HT_.out (by kernel_rfl)) (fun _ _ _ h => h) (Or.inl ⟨by rfl, ?_⟩) ?_ ?_
                rotate_left
                · intro w'
                  go_simp
                  with_reducible rfl
                rotate_left
                · simp only [Act.put, List.setIfInBounds_toArray, List.set_cons_zero, List.set_cons_succ, i64_w, i32_w]
                  rfl
                exact norm_ (by simp only [putAll, Act.put, List.setIfInBounds_toArray, List.set_cons_zero, List.set_cons_succ]) (hCont (.slice A2' La.length c2', .slice A1' F.length c1', .slice A3' L.length c3', b3) _ ⟨HB, K1, K2, K3, K4⟩)
            · skip
              refine box_step ?hg (N := 3) ?hd (cs := #[.slice none 0 0, .slice none 0 0, .slice none 0 0, .slice none 0 0, .bool false]) (t := 42) ?hr ?_; (case hd => rfl); (case hg => rfl); (case hr => first | (go_simp; done) | (go_simp; rfl))
              intro b3 hg wn hbox hb
              have K4 := Aside0.mk (And.intro hbox (show w.heap.size + 1 < b3 from by rw [hg]; exact blk_lt HB.out.res))
              replace K3 := Aside0.mk (show ∃ g, Kd.S kL 25 _ w.heap.size (fun k => k = g) v3 (List.replicate L.length []) ∧ v3.ownBlock = some g from K3.out.elim (fun g h => ⟨g, Kd.S_below h.1 hb, h.2⟩))
              replace HB := Aside0.mk (HB.out.step hb)
              refine hK.out _ _ HB.out.held (fun hHeld => ?_)
              clear hK K hb hbox hg
              refine norm_ (a' := ?_) ?_ ?_
              rotate_left
              · show Act.put _ (some 3) _ = _
                simp only [Act.put, List.setIfInBounds_toArray, List.set_cons_zero, List.set_cons_succ, i64_w, i32_w]
                rfl
              refine one_ (i := 2) (N := some 22) #[true, true, true, true, true, false, true, true, true, true, true, true, false, true, false] rfl rfl (one_of HT_.out (by kernel_rfl)) (by decide) (fun K hK => ?_)
              refine goes_ Tryd.func82 (by kernel_rfl) rfl #[.slice A2 La.length c2] (by rfl) rfl rfl (by (try simp only [List.map_toArray, List.map_cons, List.map_nil]); first | done | rfl) ?_
              refine (clone_calls A2 c2 La _ (Kd.C_below H2.out.1 HB.out.below) H2b.out).mono ?_
              rintro e wn ⟨v1, rfl, ho, hb⟩
              refine ⟨_, rfl, ?_⟩
              have K1 := Aside0.mk (Kd.R_lower ho HB.out.below.size)
              replace K3 := Aside0.mk (show ∃ g, Kd.S kL 25 _ w.heap.size (fun k => k = g) v3 (List.replicate L.length []) ∧ v3.ownBlock = some g from K3.out.elim (fun g h => ⟨g, Kd.S_below h.1 hb, h.2⟩))
              replace K4 := Aside0.mk (And.intro ((hb.block _ (blk_lt K4.out.1)).trans K4.out.1) K4.out.2)
              replace HB := Aside0.mk (HB.out.step hb)
              refine hK.out _ _ HB.out.held (fun hHeld => ?_)
              clear hK K hb ho
              refine norm_ (a' := ?_) ?_ ?_
              rotate_left
              · show Act.put _ (some 22) _ = _
                simp only [Act.put, List.setIfInBounds_toArray, List.set_cons_zero, List.set_cons_succ, i64_w, i32_w]
                rfl
              refine one_ (i := 5) (N := some 25) #[true, true, true, true, true, true, true, true, true, true, true, true, false, true, false] rfl rfl (one_of HT_.out (by kernel_rfl)) (by decide) (fun K hK => ?_)
              refine goes_ Tryd.func82 (by kernel_rfl) rfl #[.slice A1 F.length c1] (by rfl) rfl rfl (by (try simp only [List.map_toArray, List.map_cons, List.map_nil]); first | done | rfl) ?_
              refine (clone_calls A1 c1 F _ (Kd.C_below H1.out.1 HB.out.below) H1b.out).mono ?_
              rintro e wn ⟨v2, rfl, ho, hb⟩
              refine ⟨_, rfl, ?_⟩
              have K2 := Aside0.mk (Kd.R_lower ho HB.out.below.size)
              replace K1 := Aside0.mk (Kd.R_below K1.out hb)
              replace K3 := Aside0.mk (show ∃ g, Kd.S kL 25 _ w.heap.size (fun k => k = g) v3 (List.replicate L.length []) ∧ v3.ownBlock = some g from K3.out.elim (fun g h => ⟨g, Kd.S_below h.1 hb, h.2⟩))
              replace K4 := Aside0.mk (And.intro ((hb.block _ (blk_lt K4.out.1)).trans K4.out.1) K4.out.2)
              replace HB := Aside0.mk (HB.out.step hb)
              refine hK.out _ _ HB.out.held (fun hHeld => ?_)
              clear hK K hb ho
              refine norm_ (a' := ?_) ?_ ?_
              rotate_left
              · show Act.put _ (some 25) _ = _
                simp only [Act.put, List.setIfInBounds_toArray, List.set_cons_zero, List.set_cons_succ, i64_w, i32_w]
                rfl
              obtain ⟨A2', c2', rfl⟩ := Kd.R_slice K1.out
              obtain ⟨A1', c1', rfl⟩ := Kd.R_slice K2.out
              obtain ⟨A3', c3', rfl⟩ : ∃ A c, v3 = .slice A L.length c := K3.out.elim (fun g h => by obtain ⟨A, c, e⟩ := Kd.S_slice h.1; rw [List.length_replicate] at e; exact ⟨A, c, e⟩)
              refine pure_ (i := 12) (N := some 32) (v := ?_) (a' := ?_) #[true, true, true, true, true, true, true, true, true, true, true, true, true, true, false] rfl rfl (any_of HT_.out (by kernel_rfl)) (fun _ _ _ h => h) (Or.inl ⟨by rfl, ?_⟩) ?_ ?_
              rotate_left
              · intro w'
                go_simp
                with_reducible rfl
              rotate_left
              · simp only [Act.put, List.setIfInBounds_toArray, List.set_cons_zero, List.set_cons_succ, i64_w, i32_w]
                rfl
              exact norm_ (by simp only [putAll, Act.put, List.setIfInBounds_toArray, List.set_cons_zero, List.set_cons_succ]) (hCont (.slice A2' La.length c2', .slice A1' F.length c1', .slice A3' L.length c3', b3) _ ⟨HB, K1, K2, K3, K4⟩)
          · skip
            refine box_step ?hg (N := 3) ?hd (cs := #[.slice none 0 0, .slice none 0 0, .slice none 0 0, .slice none 0 0, .bool false]) (t := 42) ?hr ?_; (case hd => rfl); (case hg => rfl); (case hr => first | (go_simp; done) | (go_simp; rfl))
            intro b3 hg wn hbox hb
            have K4 := Aside0.mk (And.intro hbox (show w.heap.size + 1 < b3 from by rw [hg]; exact blk_lt HB.out.res))
            replace HB := Aside0.mk (HB.out.step hb)
            refine hK.out _ _ HB.out.held (fun hHeld => ?_)
            clear hK K hb hbox hg
            refine norm_ (a' := ?_) ?_ ?_
            rotate_left
            · show Act.put _ (some 3) _ = _
              simp only [Act.put, List.setIfInBounds_toArray, List.set_cons_zero, List.set_cons_succ, i64_w, i32_w]
              rfl
            refine two_ (i := 2) (j := 11) (Ni := some 22) (Nj := some 31) #[true, true, true, true, true, false, true, true, true, true, true, false, false, true, false] #[true, true, false, true, true, false, true, true, true, true, true, true, false, true, false] rfl rfl rfl rfl (two_of HT_.out (by kernel_rfl)) (by decide) (by decide) (fun K hK => ?_) (fun K hK => ?_)
            · skip
              refine goes_ Tryd.func82 (by kernel_rfl) rfl #[.slice A2 La.length c2] (by rfl) rfl rfl (by (try simp only [List.map_toArray, List.map_cons, List.map_nil]); first | done | rfl) ?_
              refine (clone_calls A2 c2 La _ (Kd.C_below H2.out.1 HB.out.below) H2b.out).mono ?_
              rintro e wn ⟨v1, rfl, ho, hb⟩
              refine ⟨_, rfl, ?_⟩
              have K1 := Aside0.mk (Kd.R_lower ho HB.out.below.size)
              replace K4 := Aside0.mk (And.intro ((hb.block _ (blk_lt K4.out.1)).trans K4.out.1) K4.out.2)
              replace HB := Aside0.mk (HB.out.step hb)
              refine hK.out _ _ HB.out.held (fun hHeld => ?_)
              clear hK K hb ho
              refine norm_ (a' := ?_) ?_ ?_
              rotate_left
              · show Act.put _ (some 22) _ = _
                simp only [Act.put, List.setIfInBounds_toArray, List.set_cons_zero, List.set_cons_succ, i64_w, i32_w]
                rfl
              refine two_ (i := 5) (j := 11) (Ni := some 25) (Nj := some 31) #[true, true, true, true, true, true, true, true, true, true, true, false, false, true, false] #[true, true, true, true, true, false, true, true, true, true, true, true, false, true, false] rfl rfl rfl rfl (two_of HT_.out (by kernel_rfl)) (by decide) (by decide) (fun K hK => ?_) (fun K hK => ?_)
              · skip
                refine goes_ Tryd.func82 (by kernel_rfl) rfl #[.slice A1 F.length c1] (by rfl) rfl rfl (by (try simp only [List.map_toArray, List.map_cons, List.map_nil]); first | done | rfl) ?_
                refine (clone_calls A1 c1 F _ (Kd.C_below H1.out.1 HB.out.below) H1b.out).mono ?_
                rintro e wn ⟨v2, rfl, ho, hb⟩
                refine ⟨_, rfl, ?_⟩
                have K2 := Aside0.mk (Kd.R_lower ho HB.out.below.size)
                replace K1 := Aside0.mk (Kd.R_below K1.out hb)
                replace K4 := Aside0.mk (And.intro ((hb.block _ (blk_lt K4.out.1)).trans K4.out.1) K4.out.2)
                replace HB := Aside0.mk (HB.out.step hb)
                refine hK.out _ _ HB.out.held (fun hHeld => ?_)
                clear hK K hb ho
                refine norm_ (a' := ?_) ?_ ?_
                rotate_left
                · show Act.put _ (some 25) _ = _
                  simp only [Act.put, List.setIfInBounds_toArray, List.set_cons_zero, List.set_cons_succ, i64_w, i32_w]
                  rfl
                refine one_ (i := 11) (N := some 31) #[true, true, true, true, true, true, true, true, true, true, true, true, false, true, false] rfl rfl (one_of HT_.out (by kernel_rfl)) (by decide) (fun K hK => ?_)
                refine Kd.S_make_step kL (w0 := w) w.heap.size 25 (by rfl) (N := 31) rfl 22 _ _ rfl (L.length : Int) rfl rfl Tryd.underlying22 (.slice none 0 0) 24 info25 rfl (by decide) (by decide) [] (ok := fun k => k = wn.heap.size) (okp := fun _ => False) ⟨_, rfl, Kd.R_nil _ _ _ _ _⟩ (fun _ h => h.elim) rfl (by omega) (by omega) HB.out.below HB.out.below.size ?_
                intro v3 wm ho hb0 hg hat
                have hb : Below wn.heap.size wn wm := ⟨hg.1, hg.2, hg.3, hg.4, fun k hk => hg.block k hk (by simp)⟩
                have K3 := Aside0.mk (show ∃ g, Kd.S kL 25 wm w.heap.size (fun k => k = g) v3 (List.replicate L.length []) ∧ v3.ownBlock = some g from ⟨wn.heap.size, by rw [Int.toNat_natCast] at ho; exact ho, by obtain ⟨bb, hbb, _⟩ := hat; rw [hbb, ho.elim (fun f h => h.1 bb hbb)]⟩)
                replace K1 := Aside0.mk (Kd.R_below K1.out hb)
                replace K2 := Aside0.mk (Kd.R_below K2.out hb)
                replace K4 := Aside0.mk (And.intro ((hb.block _ (blk_lt K4.out.1)).trans K4.out.1) K4.out.2)
                replace HB := Aside0.mk (HB.out.step hb)
                clear hb0 hg hat
                refine hK.out _ _ HB.out.held (fun hHeld => ?_)
                clear hK K hb ho
                refine norm_ (a' := ?_) ?_ ?_
                rotate_left
                · show Act.put _ (some 31) _ = _
                  simp only [Act.put, List.setIfInBounds_toArray, List.set_cons_zero, List.set_cons_succ, i64_w, i32_w]
                  rfl
                obtain ⟨wn, rfl⟩ : ∃ wn, wn = wm := ⟨_, rfl⟩
                obtain ⟨A2', c2', rfl⟩ := Kd.R_slice K1.out
                obtain ⟨A1', c1', rfl⟩ := Kd.R_slice K2.out
                obtain ⟨A3', c3', rfl⟩ : ∃ A c, v3 = .slice A L.length c := K3.out.elim (fun g h => by obtain ⟨A, c, e⟩ := Kd.S_slice h.1; rw [List.length_replicate] at e; exact ⟨A, c, e⟩)
                refine pure_ (i := 12) (N := some 32) (v := ?_) (a' := ?_) #[true, true, true, true, true, true, true, true, true, true, true, true, true, true, false] rfl rfl (any_of HT_.out (by kernel_rfl)) (fun _ _ _ h => h) (Or.inl ⟨by rfl, ?_⟩) ?_ ?_
                rotate_left
                · intro w'
                  go_simp
                  with_reducible rfl
                rotate_left
                · simp only [Act.put, List.setIfInBounds_toArray, List.set_cons_zero, List.set_cons_succ, i64_w, i32_w]
                  rfl
                exact norm_ (by simp only [putAll, Act.put, List.setIfInBounds_toArray, List.set_cons_zero, List.set_cons_succ]) (hCont (.slice A2' La.length c2', .slice A1' F.length c1', .slice A3' L.length c3', b3) _ ⟨HB, K1, K2, K3, K4⟩)
              · skip
                refine Kd.S_make_step kL (w0 := w) w.heap.size 25 (by rfl) (N := 31) rfl 22 _ _ rfl (L.length : Int) rfl rfl Tryd.underlying22 (.slice none 0 0) 24 info25 rfl (by decide) (by decide) [] (ok := fun k => k = wn.heap.size) (okp := fun _ => False) ⟨_, rfl, Kd.R_nil _ _ _ _ _⟩ (fun _ h => h.elim) rfl (by omega) (by omega) HB.out.below HB.out.below.size ?_
                intro v3 wm ho hb0 hg hat
                have hb : Below wn.heap.size wn wm := ⟨hg.1, hg.2, hg.3, hg.4, fun k hk => hg.block k hk (by simp)⟩
                have K3 := Aside0.mk (show ∃ g, Kd.S kL 25 wm w.heap.size (fun k => k = g) v3 (List.replicate L.length []) ∧ v3.ownBlock = some g from ⟨wn.heap.size, by rw [Int.toNat_natCast] at ho; exact ho, by obtain ⟨bb, hbb, _⟩ := hat; rw [hbb, ho.elim (fun f h => h.1 bb hbb)]⟩)
                replace K1 := Aside0.mk (Kd.R_below K1.out hb)
                replace K4 := Aside0.mk (And.intro ((hb.block _ (blk_lt K4.out.1)).trans K4.out.1) K4.out.2)
                replace HB := Aside0.mk (HB.out.step hb)
                clear hb0 hg hat
                refine hK.out _ _ HB.out.held (fun hHeld => ?_)
                clear hK K hb ho
                refine norm_ (a' := ?_) ?_ ?_
                rotate_left
                · show Act.put _ (some 31) _ = _
                  simp only [Act.put, List.setIfInBounds_toArray, List.set_cons_zero, List.set_cons_succ, i64_w, i32_w]
                  rfl
                obtain ⟨wn, rfl⟩ : ∃ wn, wn = wm := ⟨_, rfl⟩
                refine one_ (i := 5) (N := some 25) #[true, true, true, true, true, true, true, true, true, true, true, true, false, true, false] rfl rfl (one_of HT_.out (by kernel_rfl)) (by decide) (fun K hK => ?_)
                refine goes_ Tryd.func82 (by kernel_rfl) rfl #[.slice A1 F.length c1] (by rfl) rfl rfl (by (try simp only [List.map_toArray, List.map_cons, List.map_nil]); first | done | rfl) ?_
                refine (clone_calls A1 c1 F _ (Kd.C_below H1.out.1 HB.out.below) H1b.out).mono ?_
                rintro e wn ⟨v2, rfl, ho, hb⟩
                refine ⟨_, rfl, ?_⟩
                have K2 := Aside0.mk (Kd.R_lower ho HB.out.below.size)
                replace K1 := Aside0.mk (Kd.R_below K1.out hb)
                replace K3 := Aside0.mk (show ∃ g, Kd.S kL 25 _ w.heap.size (fun k => k = g) v3 (List.replicate L.length []) ∧ v3.ownBlock = some g from K3.out.elim (fun g h => ⟨g, Kd.S_below h.1 hb, h.2⟩))
                replace K4 := Aside0.mk (And.intro ((hb.block _ (blk_lt K4.out.1)).trans K4.out.1) K4.out.2)
                replace HB := Aside0.mk (HB.out.step hb)
                refine hK.out _ _ HB.out.held (fun hHeld => ?_)
                clear hK K hb ho
                refine norm_ (a' := ?_) ?_ ?_
                rotate_left
                · show Act.put _ (some 25) _ = _
                  simp only [Act.put, List.setIfInBounds_toArray, List.set_cons_zero, List.set_cons_succ, i64_w, i32_w]
                  rfl
                obtain ⟨A2', c2', rfl⟩ := Kd.R_slice K1.out
                obtain ⟨A1', c1', rfl⟩ := Kd.R_slice K2.out
                obtain ⟨A3', c3', rfl⟩ : ∃ A c, v3 = .slice A L.length c := K3.out.elim (fun g h => by obtain ⟨A, c, e⟩ := Kd.S_slice h.1; rw [List.length_replicate] at e; exact ⟨A, c, e⟩)
                refine pure_ (i := 12) (N := some 32) (v := ?_) (a' := ?_) #[true, true, true, true, true, true, true, true, true, true, true, true, true, true, false] rfl rfl (any_of HT_.out (by kernel_rfl)) (fun _ _ _ h => h) (Or.inl ⟨by rfl, ?_⟩) ?_ ?_
                rotate_left
                · intro w'
                  go_simp
                  with_reducible rfl
                rotate_left
                · simp only [Act.put, List.setIfInBounds_toArray, List.set_cons_zero, List.set_cons_succ, i64_w, i32_w]
                  rfl
                exact norm_ (by simp only [putAll, Act.put, List.setIfInBounds_toArray, List.set_cons_zero, List.set_cons_succ]) (hCont (.slice A2' La.length c2', .slice A1' F.length c1', .slice A3' L.length c3', b3) _ ⟨HB, K1, K2, K3, K4⟩)
            · skip
              refine Kd.S_make_step kL (w0 := w) w.heap.size 25 (by rfl) (N := 31) rfl 22 _ _ rfl (L.length : Int) rfl rfl Tryd.underlying22 (.slice none 0 0) 24 info25 rfl (by decide) (by decide) [] (ok := fun k => k = wn.heap.size) (okp := fun _ => False) ⟨_, rfl, Kd.R_nil _ _ _ _ _⟩ (fun _ h => h.elim) rfl (by omega) (by omega) HB.out.below HB.out.below.size ?_
              intro v3 wm ho hb0 hg hat
              have hb : Below wn.heap.size wn wm := ⟨hg.1, hg.2, hg.3, hg.4, fun k hk => hg.block k hk (by simp)⟩
              have K3 := Aside0.mk (show ∃ g, Kd.S kL 25 wm w.heap.size (fun k => k = g) v3 (List.replicate L.length []) ∧ v3.ownBlock = some g from ⟨wn.heap.size, by rw [Int.toNat_natCast] at ho; exact ho, by obtain ⟨bb, hbb, _⟩ := hat; rw [hbb, ho.elim (fun f h => h.1 bb hbb)]⟩)
              replace K4 := Aside0.mk (And.intro ((hb.block _ (blk_lt K4.out.1)).trans K4.out.1) K4.out.2)
              replace HB := Aside0.mk (HB.out.step hb)
              clear hb0 hg hat
              refine hK.out _ _ HB.out.held (fun hHeld => ?_)
              clear hK K hb ho
              refine norm_ (a' := ?_) ?_ ?_
              rotate_left
              · show Act.put _ (some 31) _ = _
                simp only [Act.put, List.setIfInBounds_toArray, List.set_cons_zero, List.set_cons_succ, i64_w, i32_w]
                rfl
              obtain ⟨wn, rfl⟩ : ∃ wn, wn = wm := ⟨_, rfl⟩
              refine one_ (i := 2) (N := some 22) #[true, true, true, true, true, false, true, true, true, true, true, true, false, true, false] rfl rfl (one_of HT_.out (by kernel_rfl)) (by decide) (fun K hK => ?_)
              refine goes_ Tryd.func82 (by kernel_rfl) rfl #[.slice A2 La.length c2] (by rfl) rfl rfl (by (try simp only [List.map_toArray, List.map_cons, List.map_nil]); first | done | rfl) ?_
              refine (clone_calls A2 c2 La _ (Kd.C_below H2.out.1 HB.out.below) H2b.out).mono ?_
              rintro e wn ⟨v1, rfl, ho, hb⟩
              refine ⟨_, rfl, ?_⟩
              have K1 := Aside0.mk (Kd.R_lower ho HB.out.below.size)
              replace K3 := Aside0.mk (show ∃ g, Kd.S kL 25 _ w.heap.size (fun k => k = g) v3 (List.replicate L.length []) ∧ v3.ownBlock = some g from K3.out.elim (fun g h => ⟨g, Kd.S_below h.1 hb, h.2⟩))
              replace K4 := Aside0.mk (And.intro ((hb.block _ (blk_lt K4.out.1)).trans K4.out.1) K4.out.2)
              replace HB := Aside0.mk (HB.out.step hb)
              refine hK.out _ _ HB.out.held (fun hHeld => ?_)
              clear hK K hb ho
              refine norm_ (a' := ?_) ?_ ?_
              rotate_left
              · show Act.put _ (some 22) _ = _
                simp only [Act.put, List.setIfInBounds_toArray, List.set_cons_zero, List.set_cons_succ, i64_w, i32_w]
                rfl
              refine one_ (i := 5) (N := some 25) #[true, true, true, true, true, true, true, true, true, true, true, true, false, true, false] rfl rfl (one_of HT_.out (by kernel_rfl)) (by decide) (fun K hK => ?_)
              refine goes_ Tryd.func82 (by kernel_rfl) rfl #[.slice A1 F.length c1] (by rfl) rfl rfl (by (try simp only [List.map_toArray, List.map_cons, List.map_nil]); first | done | rfl) ?_
              refine (clone_calls A1 c1 F _ (Kd.C_below H1.out.1 HB.out.below) H1b.out).mono ?_
              rintro e wn ⟨v2, rfl, ho, hb⟩
              refine ⟨_, rfl, ?_⟩
              have K2 := Aside0.mk (Kd.R_lower ho HB.out.below.size)
              replace K1 := Aside0.mk (Kd.R_below K1.out hb)
              replace K3 := Aside0.mk (show ∃ g, Kd.S kL 25 _ w.heap.size (fun k => k = g) v3 (List.replicate L.length []) ∧ v3.ownBlock = some g from K3.out.elim (fun g h => ⟨g, Kd.S_below h.1 hb, h.2⟩))
              replace K4 := Aside0.mk (And.intro ((hb.block _ (blk_lt K4.out.1)).trans K4.out.1) K4.out.2)
              replace HB := Aside0.mk (HB.out.step hb)
              refine hK.out _ _ HB.out.held (fun hHeld => ?_)
              clear hK K hb ho
              refine norm_ (a' := ?_) ?_ ?_
              rotate_left
              · show Act.put _ (some 25) _ = _
                simp only [Act.put, List.setIfInBounds_toArray, List.set_cons_zero, List.set_cons_succ, i64_w, i32_w]
                rfl
              obtain ⟨A2', c2', rfl⟩ := Kd.R_slice K1.out
              obtain ⟨A1', c1', rfl⟩ := Kd.R_slice K2.out
              obtain ⟨A3', c3', rfl⟩ : ∃ A c, v3 = .slice A L.length c := K3.out.elim (fun g h => by obtain ⟨A, c, e⟩ := Kd.S_slice h.1; rw [List.length_replicate] at e; exact ⟨A, c, e⟩)
              refine pure_ (i := 12) (N := some 32) (v := ?_) (a' := ?_) #[true, true, true, true, true, true, true, true, true, true, true, true, true, true, false] rfl rfl (any_of HT_.out (by kernel_rfl)) (fun _ _ _ h => h) (Or.inl ⟨by rfl, ?_⟩) ?_ ?_
              rotate_left
              · intro w'
                go_simp
                with_reducible rfl
              rotate_left
              · simp only [Act.put, List.setIfInBounds_toArray, List.set_cons_zero, List.set_cons_succ, i64_w, i32_w]
                rfl
              exact norm_ (by simp only [putAll, Act.put, List.setIfInBounds_toArray, List.set_cons_zero, List.set_cons_succ]) (hCont (.slice A2' La.length c2', .slice A1' F.length c1', .slice A3' L.length c3', b3) _ ⟨HB, K1, K2, K3, K4⟩)
        rintro ⟨v1, v2, v3, b3⟩ wn ⟨HB, K1, K2, K3, K4⟩
        obtain ⟨g3, K3g⟩ := K3.out
        clear K3
        replace HB : Aside0 (RB w w.heap.size (.slice A0 L.length c0) (.slice A1 F.length c1) (.slice A2 La.length c2) (.slice A3 Fo.length c3) b wn) := HB
        replace K1 : Aside0 (Kd.R kI 3 wn w.heap.size (fun _ => True) v1 La) := K1
        replace K2 : Aside0 (Kd.R kI 3 wn w.heap.size (fun _ => True) v2 F) := K2
        have K3 : Aside0 (Kd.S kL 25 wn w.heap.size (fun k => k = g3) v3 (List.replicate L.length []) ∧ v3.ownBlock = some g3) := ⟨K3g⟩
        clear K3g
        replace K4 : Aside0 (wn.heap[b3]? = some (.cells #[.slice none 0 0, .slice none 0 0, .slice none 0 0, .slice none 0 0, .bool false] 42 (0, 0)) ∧ w.heap.size + 1 < b3) := K4
        obtain ⟨A2', c2', rfl⟩ := Kd.R_slice K1.out
        obtain ⟨A1', c1', rfl⟩ := Kd.R_slice K2.out
        obtain ⟨A3', c3', hv3⟩ := Kd.S_slice K3.out.1
        rw [List.length_replicate] at hv3
        obtain rfl := hv3
        have hHeld := HB.out.held
        refine norm_ (a' := ?_) ?_ ?_
        rotate_left
        · simp only [putAll, Act.put, List.setIfInBounds_toArray, List.set_cons_zero, List.set_cons_succ]
          rfl
        refine last_ (i := 14) (N := none) #[true, true, true, true, true, true, true, true, true, true, true, true, true, true, true] rfl rfl (one_of HT_.out (by kernel_rfl)) (by decide) (fun K hK => ?_)
        have hs0 : wn.cell? ⟨b3, 0, none⟩ = some (.slice none 0 0) := (blk_cell K4.out.1 0).trans rfl
        have hs1 : wn.cell? ⟨b3, 1, none⟩ = some (.slice none 0 0) := (blk_cell K4.out.1 1).trans rfl
        have hs2 : wn.cell? ⟨b3, 2, none⟩ = some (.slice none 0 0) := (blk_cell K4.out.1 2).trans rfl
        have hs3 : wn.cell? ⟨b3, 3, none⟩ = some (.slice none 0 0) := (blk_cell K4.out.1 3).trans rfl
        have hs4 : wn.cell? ⟨b3, 4, none⟩ = some (.bool false) := (blk_cell K4.out.1 4).trans rfl
        have hf0 : wn.frozen? ⟨b3, 0, none⟩ = false := blk_frozen K4.out.1 0
        have hf1 : wn.frozen? ⟨b3, 1, none⟩ = false := blk_frozen K4.out.1 1
        have hf2 : wn.frozen? ⟨b3, 2, none⟩ = false := blk_frozen K4.out.1 2
        have hf3 : wn.frozen? ⟨b3, 3, none⟩ = false := blk_frozen K4.out.1 3
        have hf4 : wn.frozen? ⟨b3, 4, none⟩ = false := blk_frozen K4.out.1 4
        refine skip_ (w1 := ?_) (by rfl) rfl ?_ ?_
        rotate_left
        · go_simp
          rfl
        refine hK.out _ _ ?_
        clear hK K
        refine done_ (done_of HT_.out (by kernel_rfl)) ?_
        
        go_wp2
        go_meet
        refine ⟨A2', c2', A1', c1', A3', c3', g3, b3, rfl, ⟨?_⟩, ⟨?_⟩, ⟨?_⟩, ⟨?_, K3.out.2⟩, ⟨?_, K4.out.2⟩⟩
        · exact ((((HB.out.set K4.out.2 0 _).set K4.out.2 1 _).set K4.out.2 2 _).set K4.out.2 3 _).set K4.out.2 4 _
        · exact R_set5 K1.out K4.out.1 types42i _ _ _ _ _
        · exact R_set5 K2.out K4.out.1 types42i _ _ _ _ _
        · exact Kd.S_set (Kd.S_set (Kd.S_set (Kd.S_set (Kd.S_set K3.out.1 K4.out.1 types42 0 _) (blk_set K4.out.1 0 _) types42 1 _) (blk_set (blk_set K4.out.1 0 _) 1 _) types42 2 _) (blk_set (blk_set (blk_set K4.out.1 0 _) 1 _) 2 _) types42 3 _) (blk_set (blk_set (blk_set (blk_set K4.out.1 0 _) 1 _) 2 _) 3 _) types42 4 _
        · exact (blk_put (blk_put (blk_put (blk_put (blk_put K4.out.1 0 _ rfl) 1 _ rfl) 2 _ rfl) 3 _ rfl) 4 _ rfl)
      case rest =>
        obtain ⟨A2', c2', A1', c1', A3', c3', g3, b3, rfl, HB, K1, K2, K3, K4⟩ := hcut
        obtain rfl : A3' = some ⟨g3, 0, none⟩ := by
          cases A3' with
          | none => exact absurd K3.out.2 (by simp [Value.ownBlock])
          | some a3 =>
            obtain ⟨g, rfl⟩ := Kd.R_head (Kd.S_R K3.out.1)
            have := Option.some.inj K3.out.2
            rw [show g = g3 from this]
        obtain ⟨N, hN⟩ : ∃ N, N = wc.heap.size := ⟨_, rfl⟩
        have hNlt := hN
        have HL0 : Aside0 (Ls w N b3 g3 (.slice A0 L.length c0) (.slice A1 F.length c1) (.slice A2 La.length c2) (.slice A3 Fo.length c3) (.slice none 0 0) (.slice A2' La.length c2') (.slice A1' F.length c1') (.slice (some ⟨g3, 0, none⟩) L.length c3') b La F (fun k => N ≤ k) (fun k => k = g3) [] (List.replicate L.length []) wc) :=
          ⟨⟨HB.out, K4.out.1, Kd.S_nil _ _ _ _ _, Kd.R_mono (Kd.R_bound K1.out) (fun k hk => by rw [hN]; exact hk.2.2.1), Kd.R_mono (Kd.R_bound K2.out) (fun k hk => by rw [hN]; exact hk.2.2.1), K3.out.1, K4.out.2, by rw [hN]; exact blk_lt K4.out.1, by rw [hN]; exact Kd.S_lt K3.out.1 g3 K3.out.2, by omega, K3.out.2⟩⟩
        clear HB K1 K2 K3 K4
        have HL := HL0
        obtain ⟨f0, f1, f2, f3, f4⟩ := HL.out.rb.held
        have hb1 := C_bound H0.out.1
        go_wp2_with fail
        go_loopg [36] L.length (fun gg v36 wr => ∃ (kk : Nat) (v0 : Value), kk ≤ L.length ∧ L.length - kk ≤ gg ∧ v36 = .int .i64 kk ∧ Aside0 (Ls w N b3 g3 (.slice A0 L.length c0) (.slice A1 F.length c1) (.slice A2 La.length c2) (.slice A3 Fo.length c3) v0 (.slice A2' La.length c2') (.slice A1' F.length c1') (.slice (some ⟨g3, 0, none⟩) L.length c3') b La F (fun k => N ≤ k) (fun k => k = g3) (L.take kk) (List.replicate L.length []) wr))
        case atStart => exact ⟨0, _, Nat.zero_le _, by omega, rfl, HL⟩
        case round =>
          clear HL HL0 f0 f1 f2 f3 f4
          obtain ⟨kk, v0, hkk, hg, rfl, HL⟩ := hrel
          by_cases hlt : kk < L.length
          · have hltz : (kk : Int) < (L.length : Int) := by omega
            obtain ⟨ad, A5, c5, rfl, hcell', h5, h6⟩ := list_at H0.out.1 kk L[kk] (List.getElem?_eq_getElem hlt)
            have hcell := pw_cell_below HL.out.rb.below hcell'
            have hx : Aside0 (L[kk].length < 10000000000000) := ⟨HLb.out _ (List.getElem_mem hlt)⟩
            have hsn : Aside0 (L.take kk ++ [L[kk]] = L.take (kk + 1)) := ⟨by rw [List.take_add_one, List.getElem?_eq_getElem hlt]; rfl⟩
            generalize L[kk] = x at hcell hcell' h5 h6 hx hsn
            have H6 := Aside0.mk (And.intro h5 h6)
            clear h5 h6 hcell'
            go_upto_region 7 with fail
            clear hcell
            replace HL := Aside0.mk (HL.out.step (below_drew (Below.refl _ wr)))
            refine start_ (n := 8) (S := fun w' => w'.cell? ⟨b3, 0, none⟩ = some v0) (ds := [7]) #[false, false, false, false, false, false, false, false] (by kernel_rfl) rfl rfl ((blk_cell HL.out.row 0).trans rfl) (fun hHeld => ?_)
            refine with_tabW rev.tab7 rev.bits7 (fun HT_ HW_ => ?_)
            generalize wr.drew = wn at HL hHeld ⊢
            refine pure_ (i := 0) (N := some 40) (v := ?_) (a' := ?_) #[true, false, false, false, false, false, false, false] rfl rfl (any_of HT_.out (by kernel_rfl)) (fun _ _ _ h => h) (Or.inl ⟨by rfl, ?_⟩) ?_ ?_
            rotate_left
            · intro w'
              go_simp
              with_reducible rfl
            rotate_left
            · simp only [Act.put, List.setIfInBounds_toArray, List.set_cons_zero, List.set_cons_succ, i64_w, i32_w]
              rfl
            refine take_ (i := 1) (N := some 41) (v := ?_) (a' := ?_) #[true, true, false, false, false, false, false, false] rfl rfl (take_ofW HT_.out HW_.out (by kernel_rfl)) (fun _ _ _ h => h) (Or.inl ⟨by rfl, ?_⟩) hHeld ?_ ?_
            rotate_left
            · intro w' s0
              go_simp
              with_reducible rfl
            rotate_left
            · simp only [Act.put, List.setIfInBounds_toArray, List.set_cons_zero, List.set_cons_succ, i64_w, i32_w]
              rfl
            refine pure_ (i := 2) (N := some 42) (v := ?_) (a' := ?_) #[true, true, true, false, false, false, false, false] rfl rfl (any_of HT_.out (by kernel_rfl)) (fun _ _ _ h => h) (Or.inl ⟨by rfl, ?_⟩) ?_ ?_
            rotate_left
            · intro w'
              go_simp
              with_reducible rfl
            rotate_left
            · simp only [Act.put, List.setIfInBounds_toArray, List.set_cons_zero, List.set_cons_succ, i64_w, i32_w]
              rfl
            refine one_ (i := 3) (N := some 43) #[true, true, true, true, false, false, false, false] rfl rfl (one_of HT_.out (by kernel_rfl)) (by decide) (fun K hK => ?_)
            refine goes_ Tryd.func82 (by kernel_rfl) rfl #[.slice A5 x.length c5] (by rfl) rfl rfl (by (try simp only [List.map_toArray, List.map_cons, List.map_nil]); first | done | rfl) ?_
            refine (clone_calls A5 c5 x _ (Kd.C_below H6.out.2 HL.out.rb.below) hx.out).mono ?_
            rintro e wm ⟨vx, rfl, ho, hb⟩
            refine ⟨_, rfl, ?_⟩
            obtain ⟨A6, c6, rfl⟩ := Kd.R_slice ho
            have HX := Aside0.mk (And.intro (Kd.R_base ho) (Kd.R_lower (Kd.R_tight rfl ho) HL.out.rb.below.size))
            have HV := Aside0.mk (And.intro (Kd.S_lt HL.out.k0) HL.out.nW)
            have HS := Aside0.mk (Kd.S_old HL.out.k0 hb)
            replace HL := Aside0.mk (HL.out.step hb)
            refine hK.out _ _ ((blk_cell HL.out.row 0).trans rfl) (fun hHeld => ?_)
            clear hK K hb ho
            refine norm_ (a' := ?_) ?_ ?_
            rotate_left
            · show Act.put _ (some 43) _ = _
              simp only [Act.put, List.setIfInBounds_toArray, List.set_cons_zero, List.set_cons_succ, i64_w, i32_w]
              rfl
            refine one_ (i := 4) (N := some 44) #[true, true, true, true, true, false, false, false] rfl rfl (one_of HT_.out (by kernel_rfl)) (by decide) (fun K hK => ?_)
            refine value_ (w1 := ?_) (v := ?_) (by rfl) rfl ?_ ?_
            rotate_left 2
            · go_simp
              constructor
              · rfl
              · rfl
            refine hK.out _ _ ((blk_cell (blk_alloc HL.out.row _) 0).trans rfl) (fun hHeld => ?_)
            clear hK K
            refine norm_ (a' := ?_) ?_ ?_
            rotate_left
            · show Act.put _ (some 44) _ = _
              simp only [Act.put, List.setIfInBounds_toArray, List.set_cons_zero, List.set_cons_succ, i64_w, i32_w]
              rfl
            refine one_ (i := 5) (N := some 45) #[true, true, true, true, true, true, false, false] rfl rfl (one_of HT_.out (by kernel_rfl)) (by decide) (fun K hK => ?_)
            refine Kd.S_append_step kL (w0 := w) w.heap.size (by rfl) (.tmp 41) (.tmp 44) 22 25 (.slice none 0 0) 24 rfl Tryd.underlying22 info25 rfl (by decide) (by omega) v0 (L.take kk) x [.slice A6 x.length c6] (fun k => N ≤ k) (fun k => some k = (.slice A6 x.length c6 : Value).ownBlock) rfl rfl ?aP ?aK ?aF ?aO ?aB ?aS ?aL ?_
            case aP => exact Kd.M_row HX.out.2
            case aK => exact fun k hk => ⟨by have := HX.out.1 k hk.symm; have := HV.out.2; omega, fun he => by have := HX.out.1 k hk.symm; have := HV.out.1 k he.symm; omega⟩
            case aF => exact fun k hk => by have := HL.out.nW; omega
            case aO => exact Kd.S_mono HS.out (fun k hk => ⟨hk.1, fun he => by have := HX.out.1 k he.symm; omega⟩)
            case aB => exact HL.out.rb.below
            case aS => exact HL.out.rb.below.size
            case aL => simp only [List.length_take]; omega
            intro v0' wq ho hb hg hat
            obtain ⟨A7, c7, e7⟩ := Kd.S_slice ho
            generalize (L.take kk ++ [x]).length = m7 at e7
            subst e7
            have HF := Aside0.mk (Ls.put0 HL.out hg hb ho)
            have hne : some b3 ≠ v0.ownBlock := fun he => by have := (Kd.S_R HL.out.k0).1 b3 he.symm; have := HL.out.bN; omega
            have HR := Aside0.mk (blk_grown HL.out.row hg hne)
            clear ho hb hg hat hne
            refine hK.out _ _ ((blk_cell HR.out 0).trans rfl) (fun hHeld => ?_)
            clear hK K
            refine norm_ (a' := ?_) ?_ ?_
            rotate_left
            · show Act.put _ (some 45) _ = _
              simp only [Act.put, List.setIfInBounds_toArray, List.set_cons_zero, List.set_cons_succ, i64_w, i32_w]
              rfl
            refine pure_ (i := 6) (N := some 46) (v := ?_) (a' := ?_) #[true, true, true, true, true, true, true, false] rfl rfl (any_of HT_.out (by kernel_rfl)) (fun _ _ _ h => h) (Or.inl ⟨by rfl, ?_⟩) ?_ ?_
            rotate_left
            · intro w'
              go_simp
              with_reducible rfl
            rotate_left
            · simp only [Act.put, List.setIfInBounds_toArray, List.set_cons_zero, List.set_cons_succ, i64_w, i32_w]
              rfl
            refine last_ (i := 7) (N := none) #[true, true, true, true, true, true, true, true] rfl rfl (one_of HT_.out (by kernel_rfl)) (by decide) (fun K hK => ?_)
            have hs0 : wq.cell? ⟨b3, 0, none⟩ = some v0 := (blk_cell HR.out 0).trans rfl
            have hf0 : wq.frozen? ⟨b3, 0, none⟩ = false := blk_frozen HR.out 0
            refine skip_ (w1 := ?_) (by rfl) rfl ?_ ?_
            rotate_left
            · go_simp
              rfl
            refine hK.out _ _ ?_
            clear hK K
            refine done_ (done_of HT_.out (by kernel_rfl)) ?_
            go_wp2
            go_roundg (L.length - (kk + 1))
            case measure => omega
            case rel => exact ⟨kk + 1, _, by omega, by omega, by go_num, ⟨by rw [← hsn.out]; exact HF.out⟩⟩
          · have hltz : ¬ (kk : Int) < (L.length : Int) := by omega
            obtain rfl : L.length = kk := by omega
            rw [List.take_length] at HL
            replace HL := Aside0.mk HL.out.over
            obtain ⟨N1, hN1⟩ : ∃ N1, N1 = wr.heap.size := ⟨_, rfl⟩
            rw [← hN1] at HL
            clear hN1
            have PIN := Aside0.mk (placed_in HP.out)
            have hFL := PIN.out.1
            obtain ⟨f0, f1, f2, f3, f4⟩ := HL.out.rb.held
            have hb3 := C_bound H3.out.1
            go_wp2_with fail
            go_loopg [51] Fo.length (fun gg v51 wr => ∃ (kk : Nat), kk ≤ Fo.length ∧ Fo.length - kk ≤ gg ∧ v51 = .int .i64 kk ∧ Aside0 (Ls w N1 b3 g3 (.slice A0 L.length c0) (.slice A1 F.length c1) (.slice A2 La.length c2) (.slice A3 Fo.length c3) v0 (.slice A2' La.length c2') (.slice A1' F.length c1') (.slice (some ⟨g3, 0, none⟩) L.length c3') b La F (fun k => k < N1 ∧ k ≠ g3) (fun k => k = g3 ∨ N1 ≤ k) L (turnK Fo L.length kk) wr))
            case atStart => exact ⟨0, Nat.zero_le _, by omega, rfl, HL⟩
            case round =>
              clear HL f0 f1 f2 f3 f4
              obtain ⟨kk, hkk2, hg2, rfl, HL⟩ := hrel
              by_cases hlt2 : kk < Fo.length
              · have hltz2 : (kk : Int) < (Fo.length : Int) := by omega
                obtain ⟨ad, A5, c5, rfl, hcell', h5, h6⟩ := list_at H3.out.1 kk Fo[kk] (List.getElem?_eq_getElem hlt2)
                have hcell := pw_cell_below HL.out.rb.below hcell'
                have hget : Aside0 (Fo.getD kk [] = Fo[kk]) := ⟨by rw [List.getD_eq_getElem?_getD, List.getElem?_eq_getElem hlt2]; rfl⟩
                have hmem : Aside0 (∀ q ∈ Fo[kk], 0 ≤ q ∧ q < (L.length : Int)) := ⟨PIN.out.2.2.2 _ (List.getElem_mem hlt2)⟩
                have htt : Aside0 (tot Fo (kk + 1) ≤ 5000000000000) := ⟨Nat.le_trans (tot_mono Fo hlt2) HT.out⟩
                generalize Fo[kk] = x at hcell hcell' h5 h6 hget hmem
                have H6 := Aside0.mk (And.intro h5 h6)
                have hbx := C_bound h6
                clear h5 h6 hcell'
                go_wp2_with fail
                go_loopg [58] x.length (fun gg v58 wr => ∃ (j : Nat), j ≤ x.length ∧ x.length - j ≤ gg ∧ v58 = .int .i64 j ∧ Aside0 (Ls w N1 b3 g3 (.slice A0 L.length c0) (.slice A1 F.length c1) (.slice A2 La.length c2) (.slice (some ad) Fo.length c3) v0 (.slice A2' La.length c2') (.slice A1' F.length c1') (.slice (some ⟨g3, 0, none⟩) L.length c3') b La F (fun k => k < N1 ∧ k ≠ g3) (fun k => k = g3 ∨ N1 ≤ k) L (turnRow kk (turnK Fo L.length kk) (x.take j)) wr))
                case atStart => exact ⟨0, Nat.zero_le _, by omega, rfl, HL⟩
                case round =>
                  clear HL hcell
                  obtain ⟨j, hj, hgj, rfl, HL⟩ := hrel
                  by_cases hlj : j < x.length
                  · have hljz : (j : Int) < (x.length : Int) := by omega
                    obtain ⟨ad5, rfl, hcell'⟩ := int_at H6.out.2 j x[j] (List.getElem?_eq_getElem hlj)
                    have hcell := pw_cell_below HL.out.rb.below hcell'
                    have hxj : Aside0 (x[j]? = some x[j]) := ⟨List.getElem?_eq_getElem hlj⟩
                    have hyy := hmem.out x[j] (List.getElem_mem hlj)
                    generalize x[j] = y at hcell hcell' hxj hyy
                    obtain ⟨y, rfl⟩ := Int.eq_ofNat_of_zero_le hyy.1
                    have hqn : y < L.length := by omega
                    have hq1 : (0 : Int) ≤ (y : Int) := by omega
                    have hq2 : (y : Int) < (L.length : Int) := by omega
                    have hTs : Aside0 (turnRow kk (turnK Fo L.length kk) (x.take (j + 1)) = (turnRow kk (turnK Fo L.length kk) (x.take j)).set y ((turnRow kk (turnK Fo L.length kk) (x.take j)).getD y [] ++ [(kk : Int)])) := ⟨turnRow_snoc _ _ _ _ _ hxj.out⟩
                    have HLen : Aside0 (((turnRow kk (turnK Fo L.length kk) (x.take j)).getD y []).length ≤ 5000000000000) := ⟨by
                      refine Nat.le_trans (turnRow_bound kk (x.take j) (turnK Fo L.length kk) (tot Fo kk) (turnK_bound Fo L.length kk) y) ?_
                      have h1 := htt.out
                      have h2 : tot Fo (kk + 1) = tot Fo kk + x.length := by rw [← hget.out]; rfl
                      simp only [List.length_take]
                      omega⟩
                    generalize turnRow kk (turnK Fo L.length kk) (x.take j) = T at HL hTs HLen
                    clear hyy hcell'
                    go_upto_region 15 with fail
                    clear hcell
                    replace HL := Aside0.mk (HL.out.step (below_drew (Below.refl _ wr)))
                    obtain ⟨oki, cc, _, hM, hcc, hoki, hH⟩ := Kd.S_lend HL.out.k3 [] (y : Int) hq1 hq2
                    obtain ⟨u, rfl, hu⟩ := hM
                    have HC := Aside0.mk (And.intro (show (wr.drew).cell? ⟨g3, y, none⟩ = some u from (by have := hcc 0 u rfl; rwa [show ((y : Int)).toNat * kL.sz + 0 = y from Nat.mul_one _] at this)) trivial)
                    have HU : Aside0 (Kd.R kI 3 wr.drew w.heap.size oki u (T.getD y [])) := ⟨hu⟩
                    have HO := Aside0.mk hoki
                    have HH := Aside0.mk hH
                    clear hu hcc hoki hH
                    refine start_ (n := 13) (S := fun w' => w'.cell? ⟨b3, 3, none⟩ = some (.slice (some ⟨g3, 0, none⟩) L.length c3') ∧ w'.cell? ⟨g3, y, none⟩ = some u) (ds := [12]) #[false, false, false, false, false, false, false, false, false, false, false, false, false] (by kernel_rfl) rfl rfl ⟨(blk_cell HL.out.row 3).trans rfl, HC.out.1⟩ (fun hHeld => ?_)
                    refine with_tabW rev.tab15 rev.bits15 (fun HT_ HW_ => ?_)
                    generalize wr.drew = wn at HL HC HU HH hHeld ⊢
                    refine pure_ (i := 0) (N := some 62) (v := ?_) (a' := ?_) #[true, false, false, false, false, false, false, false, false, false, false, false, false] rfl rfl (any_of HT_.out (by kernel_rfl)) (fun _ _ _ h => h) (Or.inl ⟨by rfl, ?_⟩) ?_ ?_
                    rotate_left
                    · intro w'
                      go_simp
                      with_reducible rfl
                    rotate_left
                    · simp only [Act.put, List.setIfInBounds_toArray, List.set_cons_zero, List.set_cons_succ, i64_w, i32_w]
                      rfl
                    refine pure_ (i := 2) (N := some 64) (v := ?_) (a' := ?_) #[true, false, true, false, false, false, false, false, false, false, false, false, false] rfl rfl (any_of HT_.out (by kernel_rfl)) (fun _ _ _ h => h) (Or.inl ⟨by rfl, ?_⟩) ?_ ?_
                    rotate_left
                    · intro w'
                      go_simp
                      with_reducible rfl
                    rotate_left
                    · simp only [Act.put, List.setIfInBounds_toArray, List.set_cons_zero, List.set_cons_succ, i64_w, i32_w]
                      rfl
                    refine pure_ (i := 3) (N := some 65) (v := ?_) (a' := ?_) #[true, false, true, true, false, false, false, false, false, false, false, false, false] rfl rfl (any_of HT_.out (by kernel_rfl)) (fun _ _ _ h => h) (Or.inl ⟨by rfl, ?_⟩) ?_ ?_
                    rotate_left
                    · intro w'
                      go_simp
                      with_reducible rfl
                    rotate_left
                    · simp only [Act.put, List.setIfInBounds_toArray, List.set_cons_zero, List.set_cons_succ, i64_w, i32_w]
                      rfl
                    refine pure_ (i := 5) (N := some 67) (v := ?_) (a' := ?_) #[true, false, true, true, false, true, false, false, false, false, false, false, false] rfl rfl (any_of HT_.out (by kernel_rfl)) (fun _ _ _ h => h) (Or.inl ⟨by rfl, ?_⟩) ?_ ?_
                    rotate_left
                    · intro w'
                      go_simp
                      with_reducible rfl
                    rotate_left
                    · simp only [Act.put, List.setIfInBounds_toArray, List.set_cons_zero, List.set_cons_succ, i64_w, i32_w]
                      rfl
                    refine pure_ (i := 8) (N := some 70) (v := ?_) (a' := ?_) #[true, false, true, true, false, true, false, false, true, false, false, false, false] rfl rfl (any_of HT_.out (by kernel_rfl)) (fun _ _ _ h => h) (Or.inl ⟨by rfl, ?_⟩) ?_ ?_
                    rotate_left
                    · intro w'
                      go_simp
                      with_reducible rfl
                    rotate_left
                    · simp only [Act.put, List.setIfInBounds_toArray, List.set_cons_zero, List.set_cons_succ, i64_w, i32_w]
                      rfl
                    refine take_ (i := 1) (N := some 63) (v := ?_) (a' := ?_) #[true, true, true, true, false, true, false, false, true, false, false, false, false] rfl rfl (take_ofW HT_.out HW_.out (by kernel_rfl)) (fun _ _ _ h => h) (Or.inl ⟨by rfl, ?_⟩) hHeld ?_ ?_
                    rotate_left
                    · rintro w' ⟨s0, s1⟩
                      go_simp
                      with_reducible rfl
                    rotate_left
                    · simp only [Act.put, List.setIfInBounds_toArray, List.set_cons_zero, List.set_cons_succ, i64_w, i32_w]
                      rfl
                    refine take_ (i := 4) (N := some 66) (v := ?_) (a' := ?_) #[true, true, true, true, true, true, false, false, true, false, false, false, false] rfl rfl (take_ofW HT_.out HW_.out (by kernel_rfl)) (fun _ _ _ h => h) (Or.inl ⟨by rfl, ?_⟩) hHeld ?_ ?_
                    rotate_left
                    · rintro w' ⟨s0, s1⟩
                      go_simp
                      with_reducible rfl
                    rotate_left
                    · simp only [Act.put, List.setIfInBounds_toArray, List.set_cons_zero, List.set_cons_succ, i64_w, i32_w]
                      rfl
                    refine pure_ (i := 6) (N := some 68) (v := ?_) (a' := ?_) #[true, true, true, true, true, true, true, false, true, false, false, false, false] rfl rfl (any_of HT_.out (by kernel_rfl)) (fun _ _ _ h => h) (Or.inl ⟨by rfl, ?_⟩) ?_ ?_
                    rotate_left
                    · intro w'
                      go_simp
                      with_reducible rfl
                    rotate_left
                    · simp only [Act.put, List.setIfInBounds_toArray, List.set_cons_zero, List.set_cons_succ, i64_w, i32_w]
                      rfl
                    refine take_ (i := 7) (N := some 69) (v := ?_) (a' := ?_) #[true, true, true, true, true, true, true, true, true, false, false, false, false] rfl rfl (take_ofW HT_.out HW_.out (by kernel_rfl)) (fun _ _ _ h => h) (Or.inl ⟨by rfl, ?_⟩) hHeld ?_ ?_
                    rotate_left
                    · rintro w' ⟨s0, s1⟩
                      go_simp
                      with_reducible rfl
                    rotate_left
                    · simp only [Act.put, List.setIfInBounds_toArray, List.set_cons_zero, List.set_cons_succ, i64_w, i32_w]
                      rfl
                    refine one_ (i := 9) (N := some 71) #[true, true, true, true, true, true, true, true, true, true, false, false, false] rfl rfl (one_of HT_.out (by kernel_rfl)) (by decide) (fun K hK => ?_)
                    refine value_ (w1 := ?_) (v := ?_) (by rfl) rfl ?_ ?_
                    rotate_left 2
                    · go_simp
                      repeat' (first | rfl | constructor)
                    refine hK.out _ _ ⟨(blk_cell (blk_alloc HL.out.row _) 3).trans rfl, cell_alloc HC.out.1 _⟩ (fun hHeld => ?_)
                    clear hK K
                    refine norm_ (a' := ?_) ?_ ?_
                    rotate_left
                    · show Act.put _ (some 71) _ = _
                      simp only [Act.put, List.setIfInBounds_toArray, List.set_cons_zero, List.set_cons_succ, i64_w, i32_w]
                      rfl
                    refine one_ (i := 10) (N := some 72) #[true, true, true, true, true, true, true, true, true, true, true, false, false] rfl rfl (one_of HT_.out (by kernel_rfl)) (by decide) (fun K hK => ?_)
                    refine Kd.R_append_step kI (w0 := w) w.heap.size (by rfl) (.tmp 69) (.tmp 71) 25 3 (.int .i64 0) 8 rfl Tryd.underlying25 info3 rfl (by decide) (by omega) u (T.getD y []) (kk : Int) [.int .i64 kk] (fun k => oki k ∨ (k = g3 ∨ N1 ≤ k) ∧ wn.heap.size ≤ k) (fun _ => False) rfl rfl ?aP (fun _ hk => hk.elim) ?aF ?aO ?aB ?aS ?aL ?_
                    case aP => exact rfl
                    case aF => exact fun k hk => .inr ⟨.inr (by have := HL.out.nW; omega), hk⟩
                    case aO => exact Kd.R_mono HU.out (fun k hk => .inl hk)
                    case aB => exact HL.out.rb.below
                    case aS => exact HL.out.rb.below.size
                    case aL => have := HLen.out; omega
                    intro u' wq ho hb hg hat
                    obtain ⟨A7, c7, e7⟩ := Kd.R_slice ho
                    generalize (T.getD y [] ++ [(kk : Int)]).length = m7 at e7
                    subst e7
                    have HF := Aside0.mk (Ls.put3 HL.out hqn HO.out HU.out HH.out hg hb ho)
                    have HR := Aside0.mk (put3_at HL.out hqn HO.out HU.out HH.out hg)
                    clear ho hb hg hat
                    refine hK.out _ _ ⟨HR.out.1, HR.out.2.1⟩ (fun hHeld => ?_)
                    clear hK K
                    refine norm_ (a' := ?_) ?_ ?_
                    rotate_left
                    · show Act.put _ (some 72) _ = _
                      simp only [Act.put, List.setIfInBounds_toArray, List.set_cons_zero, List.set_cons_succ, i64_w, i32_w]
                      rfl
                    refine pure_ (i := 11) (N := some 73) (v := ?_) (a' := ?_) #[true, true, true, true, true, true, true, true, true, true, true, true, false] rfl rfl (any_of HT_.out (by kernel_rfl)) (fun _ _ _ h => h) (Or.inl ⟨by rfl, ?_⟩) ?_ ?_
                    rotate_left
                    · intro w'
                      go_simp
                      with_reducible rfl
                    rotate_left
                    · simp only [Act.put, List.setIfInBounds_toArray, List.set_cons_zero, List.set_cons_succ, i64_w, i32_w]
                      rfl
                    refine last_ (i := 12) (N := none) #[true, true, true, true, true, true, true, true, true, true, true, true, true] rfl rfl (one_of HT_.out (by kernel_rfl)) (by decide) (fun K hK => ?_)
                    have hs0 := HR.out.2.1
                    have hf0 := HR.out.2.2
                    refine skip_ (w1 := ?_) (by rfl) rfl ?_ ?_
                    rotate_left
                    · go_simp
                      rfl
                    refine hK.out _ _ ?_
                    clear hK K
                    refine done_ (done_of HT_.out (by kernel_rfl)) ?_
                    go_wp2
                    go_roundg (x.length - (j + 1))
                    case measure => omega
                    case rel => exact ⟨j + 1, by omega, by omega, by go_num, ⟨by rw [hTs.out]; exact HF.out⟩⟩
                  · have hljz : ¬ (j : Int) < (x.length : Int) := by omega
                    obtain rfl : x.length = j := by omega
                    rw [List.take_length] at HL
                    go_wp2
                    go_roundg (Fo.length - (kk + 1))
                    case measure => omega
                    case rel => exact ⟨kk + 1, by omega, by omega, by go_num, ⟨by rw [show turnK Fo L.length (kk + 1) = turnRow kk (turnK Fo L.length kk) x from by rw [← hget.out]; rfl]; exact HL.out⟩⟩
              · have hltz2 : ¬ (kk : Int) < (Fo.length : Int) := by omega
                obtain rfl : Fo.length = kk := by omega
                obtain ⟨A9, c9, rfl⟩ := Kd.S_slice HL.out.k0
                have z0 : wr.cell? ⟨w.heap.size + 1, 0, none⟩ = some (.slice none 0 0) := (blk_cell HL.out.rb.res 0).trans rfl
                have z1 : wr.cell? ⟨w.heap.size + 1, 1, none⟩ = some (.slice none 0 0) := (blk_cell HL.out.rb.res 1).trans rfl
                have z2 : wr.cell? ⟨w.heap.size + 1, 2, none⟩ = some (.slice none 0 0) := (blk_cell HL.out.rb.res 2).trans rfl
                have z3 : wr.cell? ⟨w.heap.size + 1, 3, none⟩ = some (.slice none 0 0) := (blk_cell HL.out.rb.res 3).trans rfl
                have z4 : wr.cell? ⟨w.heap.size + 1, 4, none⟩ = some (.bool false) := (blk_cell HL.out.rb.res 4).trans rfl
                have y0 := blk_frozen HL.out.rb.res 0
                have y1 := blk_frozen HL.out.rb.res 1
                have y2 := blk_frozen HL.out.rb.res 2
                have y3 := blk_frozen HL.out.rb.res 3
                have y4 := blk_frozen HL.out.rb.res 4
                have x0 := (blk_cell HL.out.row 0).trans rfl
                have x1 := (blk_cell HL.out.row 1).trans rfl
                have x2 := (blk_cell HL.out.row 2).trans rfl
                have x3 := (blk_cell HL.out.row 3).trans rfl
                have x4 := (blk_cell HL.out.row 4).trans rfl
                go_wp2_with fail
                refine bodyPost_ret (results_cell_row rfl _ _ (w.heap.size + 1) 42 #[.slice A9 L.length c9, .slice A2' La.length c2', .slice A1' F.length c1', .slice (some ⟨g3, 0, none⟩) L.length c3', .bool b] (0, 0) _ rfl (blk_put (blk_put (blk_put (blk_put (blk_put HL.out.rb.res 0 _ rfl) 1 _ rfl) 2 _ rfl) 3 _ rfl) 4 _ rfl) Tryd.underlying42 rfl (by kernel_rfl)) rfl ?_
                refine ⟨_, _, _, _, by rw [hOk.out]; rfl, ?_, ?_, ?_, ?_, ?_⟩
                · rw [hOk.out]; exact R_set5 (Kd.S_R HL.out.k0) HL.out.rb.res types42 _ _ _ _ _
                · rw [hOk.out]; exact R_set5 HL.out.k1 HL.out.rb.res types42i _ _ _ _ _
                · rw [hOk.out]; exact R_set5 HL.out.k2 HL.out.rb.res types42i _ _ _ _ _
                · rw [hOk.out, show turnK Fo L.length L.length = turnK Fo L.length Fo.length from by rw [hFL]]; exact R_set5 (Kd.S_R HL.out.k3) HL.out.rb.res types42 _ _ _ _ _
                · exact (((((HL.out.rb.below.setCell (Nat.le_succ _) _).setCell (Nat.le_succ _) _).setCell (Nat.le_succ _) _).setCell (Nat.le_succ _) _).setCell (Nat.le_succ _) _)
end Go.Proofs.YtfonajakaimnoaaDoor.C11
