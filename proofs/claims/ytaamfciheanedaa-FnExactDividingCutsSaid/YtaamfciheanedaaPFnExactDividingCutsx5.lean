/- By hand: what the print leaves out of FnExactDividingCuts. -/
import Derived.Test.YtaamfciheanedaaPFnExactDividingCutsx0
import Derived.Test.YtaamfciheanedaaPFnExactDividingCutsx1
import Derived.Test.YtaamfciheanedaaPFnExactDividingCutsx2
import Derived.Test.YtaamfciheanedaaPFnExactDividingCutsx3
import Derived.Test.YtaamfciheanedaaPFnExactDividingCutsx4
namespace Go.Proofs.Ytaamfciheanedaa.PFnExactDividingCuts
open Go.RowKit Go.Proofs.YtaamfciheanedaaW.PrintWords Go.Proofs.YtaamfciheanedaaW.PrintLast Go.Proofs.YtaamfciheanedaaW.PrintMore
attribute [local go_sem] max2_int min2_int max_two min_two max_three min_three max_four min_four   -- for this text's walks alone
set_option linter.unusedVariables false
set_option linter.unusedSimpArgs false

attribute [local go_sem high] cell_set_map

deriving instance DecidableEq for S24
/-! ### laws_markSurfaceSS: written by hand (44; markIntS is 39) -/
def laws_markSurfaceSS.l0 : Nat → List (List S24) → Int → Int → Option (Int × List (List S24))
  | 0, _, _, _ => none
  | k + 1, x0, x1, x5 => if x5 < (x0.length : Int) then (if 0 ≤ x5 then ((laws_markSurfaceS.f k (x0.getD x5.toNat []) x1).bind fun t => (laws_markSurfaceSS.l0 k (x0.set x5.toNat t.2) t.1 (wrap64 (x5 + 1)))) else (none)) else (some (x1, x0))
def laws_markSurfaceSS.f (k : Nat) (l0 : List (List S24)) (a1 : Int) : Option (Int × List (List S24)) := laws_markSurfaceSS.l0 k l0 a1 0
theorem laws_markSurfaceSS.mono_l : ∀ k, (∀ y0 y1 y2, LeO (laws_markSurfaceSS.l0 k y0 y1 y2) (laws_markSurfaceSS.l0 (k + 1) y0 y1 y2))
  | 0 => fun _ _ _ r h => by simp [laws_markSurfaceSS.l0] at h
  | k + 1 => by
    have ih0 := laws_markSurfaceSS.mono_l k
    · intro y0 y1 y2
      unfold laws_markSurfaceSS.l0
      repeat' first
      | exact ih0 _ _ _
      | exact laws_markSurfaceS.mono _ _ _
      | exact LeO.refl _
      | exact LeO.none _
      | refine LeO.ite ?_ ?_
      | refine LeO.bind ?_ (fun _ => ?_)
theorem laws_markSurfaceSS.mono : ∀ a0 a1 k, LeO (laws_markSurfaceSS.f k a0 a1) (laws_markSurfaceSS.f (k + 1) a0 a1) := fun a0 a1 k => laws_markSurfaceSS.mono_l k a0 a1 0
set_option maxHeartbeats 8000000 in
set_option maxRecDepth 100000 in
theorem laws_markSurfaceSS.calls (k : Nat) (P0_ : Nat → Prop) (u9000_ : Value) (l0 : List (List S24)) (a1 : Int) (r1 : Int) (r2 : List (List S24)) (w0 w : World) (hB : Below w0.heap.size w0 w) (ho0 : Kd.S (Kd.slice 24 k24) 38 w w0.heap.size P0_ u9000_ l0) (h : laws_markSurfaceSS.f k l0 a1 = some (r1, r2)) :
    Calls Try.prog 44 #[u9000_, .int .i64 a1] w fun e w' => e = .returned (.int .i64 r1) ∧ Kd.S (Kd.slice 24 k24) 38 w' w0.heap.size P0_ u9000_ r2 ∧ Below w0.heap.size w0 w' ∧ Kept w w' (fun k_ => P0_ k_) := by
  have HO0 := Aside0.mk ho0
  have HK := Aside0.mk (Kept.refl w (fun k_ => P0_ k_))
  have HB := Aside0.mk hB
  clear hB
  have H' := Aside0.mk (show laws_markSurfaceSS.l0 k l0 a1 0 = some (r1, r2) from h)
  clear h
  obtain ⟨A0, c0, e0⟩ := Kd.S_slice HO0.out
  subst e0
  clear ho0
  go_enter Try.func44, Try.ntmps44
  go_wp2
  go_loopg [1, 5] k (fun kq v1 v5 w' => ∃ (x0_1 : List (List S24)) (x1_1 : Int) (x5_1 : Int), v1 = .int .i64 x1_1 ∧ v5 = .int .i64 x5_1 ∧ Aside0 (laws_markSurfaceSS.l0 kq x0_1 x1_1 x5_1 = some (r1, r2)) ∧ Aside0 (kq ≤ k) ∧ Aside0 (x0_1.length = l0.length) ∧ Aside0 (Kd.S (Kd.slice 24 k24) 38 w' w0.heap.size P0_ (.slice A0 l0.length c0) x0_1) ∧ Aside0 (Kept w w' (fun k_ => P0_ k_)) ∧ Aside0 (Below w0.heap.size w0 w'))
  case atStart => exact ⟨l0, a1, 0, (by first | rfl | (simp; done) | (simp [*]; done)), (by first | rfl | (simp; done) | (simp [*]; done)), H', ⟨Nat.le_refl _⟩, ⟨rfl⟩, ⟨by (with_reducible repeat (first | apply Kd.S_alloc | apply Kd.S_drewN | apply Kd.S_drew)); exact HO0.out⟩, ⟨by repeat (first | (with_reducible first | exact HK.out | apply Kept.alloc | apply Kept.drewN | apply Kept.drew) | exact HK.out)⟩, ⟨by repeat (first | (with_reducible first | exact HB.out | apply below_alloc | apply pw_below_drewN | apply below_drew1) | exact HB.out)⟩⟩
  case round =>
    clear H' HO0
    obtain ⟨x0_1, x1_1, x5_1, rfl, rfl, HA, HK1, HL, HO, HK, HB⟩ := hrel
    cases gk with
    | zero => exact absurd HA.out (by simp [laws_markSurfaceSS.l0])
    | succ k1 =>
      have H := HA.out
      clear HA
      simp only [laws_markSurfaceSS.l0] at H
      rw [HL.out] at H
      by_cases c3 : x5_1 < (l0.length : Int)
      · rw [if_pos c3] at H
        have c3b0 : decide (x5_1 < (l0.length : Int)) = true := decide_eq_true c3
        by_cases c4 : 0 ≤ x5_1
        · rw [if_pos c4] at H
          have c4b0 : decide (0 ≤ x5_1) = true := decide_eq_true c4
          replace H := Option.bind_eq_some_iff.mp H
          obtain ⟨⟨t1, t2⟩, A5, H⟩ := H
          have H' := Aside0.mk H
          clear H
          have A5 := Aside0.mk A5
          obtain ⟨go5, co5, eo5, gb5, gl5, cl5, HG5⟩ := Kd.S_form HO.out (by have := HL.out; omega)
          injection eo5 with ea_ en_ ec_
          subst ea_
          clear en_ ec_ co5
          clear gb5 gl5 HG5 cl5
          obtain ⟨oki, ce, hcl, hM, hcc, hfr, hoki, hH⟩ := Kd.S_elem HO.out [] x5_1 c4 c3
          obtain ⟨ve, rfl, ge⟩ := hM
          have hx5_0 := hcc 0 _ rfl
          simp only [show ((Kd.slice 24 k24)).sz = 1 from rfl, Nat.mul_one, Nat.add_zero] at hx5_0
          clear hcl hcc hfr
          have GE := Aside0.mk ge
          have HH := Aside0.mk hH
          have HOK := Aside0.mk hoki
          clear ge hH hoki
          have p5 := eq_true c4
          have q5 := eq_true c3
          clear c3 c4
          go_wp2_with ((with_reducible refine gate_callee (f := 39) rfl ?_); refine goesL_ (some 17) rfl rfl Try.func39 (by kernel_rfl) rfl #[ve, .int .i64 x1_1] rfl (by first | done | rfl | (simp only [List.map_toArray, List.map_cons, List.map_nil]; rfl) | simp only [List.map_toArray, List.map_cons, List.map_nil]) ?_; (with_reducible refine (laws_markSurfaceS.calls k1 oki ve _ x1_1 t1 t2 w0 _ ?side1 ?side2 A5.out).mono ?_); (case side1 => repeat (first | (with_reducible first | exact HB.out | apply below_alloc | apply pw_below_drewN | apply below_drew1) | exact HB.out)); (case side2 => (with_reducible repeat (first | apply Kd.R_alloc | apply Kd.R_drewN | apply Kd.R_drew)); exact GE.out); rintro e w9 ⟨rfl, hr9, hb9, hk9⟩; refine ⟨_, rfl, ?_⟩; have n0_ := Aside0.mk (Kd.H_back (Kd.H_kept HH.out hk9 (fun k_ _ hn => hn)) (Kd.M_row (Kd.R_tight rfl hr9)) (fun k_ hk_ => GE.out.1 k_ hk_.symm)); have n1_ := Aside0.mk (Kept.then_ HK.out hk9 (fun k_ hk_ => Or.inl (HOK.out k_ hk_).1)); have n2_ := Aside0.mk hb9; clear HO HK HB hr9 hb9 hk9 HH GE; have HO := n0_; have HK := n1_; have HB := n2_; clear n0_ n1_ n2_)
          go_roundg k1
          case measure => have := HK1.out; omega
          case rel => exact ⟨_, t1, (wrap64 (x5_1 + 1)), (by first | rfl | (simp; done) | (simp [*]; done)), (by first | rfl | (simp; done) | (simp [*]; done)), H', ⟨by have := HK1.out; omega⟩, ⟨by rw [List.length_set]; exact HL.out⟩, ⟨by (with_reducible repeat (first | apply Kd.S_alloc | apply Kd.S_drewN | apply Kd.S_drew)); exact HO.out⟩, ⟨by repeat (first | (with_reducible first | exact HK.out | apply Kept.alloc | apply Kept.drewN | apply Kept.drew) | exact HK.out)⟩, ⟨by repeat (first | (with_reducible first | exact HB.out | apply below_alloc | apply pw_below_drewN | apply below_drew1) | exact HB.out)⟩⟩
        · rw [if_neg c4] at H
          exact absurd H (by simp)
      · rw [if_neg c3] at H
        have c3b0 : decide (x5_1 < (l0.length : Int)) = false := decide_eq_false c3
        clear c3
        simp only [Option.some.injEq, Prod.mk.injEq] at H
        obtain ⟨rfl, rfl⟩ := H
        go_wp2
        go_ret
        exact ⟨by first | rfl | (simp [errW_none, errW_some] <;> rfl) | (simp [*, errW_none, errW_some] <;> rfl), by (with_reducible repeat (first | apply Kd.S_alloc | apply Kd.S_drewN | apply Kd.S_drew)); exact HO.out, by repeat (first | (with_reducible first | exact HB.out | apply below_alloc | apply pw_below_drewN | apply below_drew1) | exact HB.out), by repeat (first | (with_reducible first | exact HK.out | apply Kept.alloc | apply Kept.drewN | apply Kept.drew) | exact HK.out)⟩
theorem held' (k : Nat) (A0 : Option Addr) (c0 : Nat) (l0 : List (List S24)) (n : Nat) (a1 : Int) (r : Int) (w : World) (hn : n = l0.length) (hr0 : Kd.C (Kd.slice 24 k24) w A0 l0.length l0) (hc0 : n ≤ c0) (h : laws_heldSurfaceSS.f k l0 a1 = some r) :
    Calls Try.prog 45 #[.slice A0 n c0, .int .i64 a1] w fun e w' => e = .returned (.int .i64 r) ∧ Drawn0 w w' := by
  subst hn
  exact laws_heldSurfaceSS.calls k A0 c0 l0 a1 r w hr0 hc0 h
set_option maxHeartbeats 8000000 in
set_option maxRecDepth 100000 in
theorem law_calls (k : Nat) (a0_0 a0_1 a0_2 : Int) (W W' : List (List S24)) (m : Int) (w : World) (h1 : Aside0 (spec_DividingCuts.f k a0_0 a0_1 a0_2 = some W)) (h2 : Aside0 (impl_DividingCuts.f k a0_0 a0_1 a0_2 = some W)) (h3 : Aside0 (laws_eqSurfaceSS.f k W W = some true)) (h4 : Aside0 (laws_markSurfaceSS.f k W 1 = some (m, W'))) (h5 : Aside0 (laws_heldSurfaceSS.f k W' 1 = some m)) (h6 : 0 ≤ m) :
    Calls Try.prog 12 #[.agg #[.int .i64 a0_0, .int .i64 a0_1, .int .i64 a0_2]] w fun e w' => e = .returned (.bool true) ∧ Below w.heap.size w w' := by
  have HB := Aside0.mk (Below.refl w.heap.size w)
  have hm0 : decide (m < 0) = false := decide_eq_false (by omega)
  have hm1 : (m != m) = false := by simp
  clear h6
  have T0 := trivial
  go_enter Try.func12, Try.ntmps12
  go_wp2_with (first | ((with_reducible clear T0); (with_reducible refine gate_callee (f := 16) rfl ?_); refine goesL_ (some _) rfl rfl Try.func16 (by kernel_rfl) rfl #[.agg #[.int .i64 a0_0, .int .i64 a0_1, .int .i64 a0_2]] rfl (by (try simp only [List.map_toArray, List.map_cons, List.map_nil]); first | done | rfl) ?_; (with_reducible refine (laws_toSurface.calls a0_0 a0_1 a0_2 a0_0 a0_1 a0_2 _ rfl).mono ?_); rintro e wt0 ⟨rfl, hb⟩; refine ⟨_, rfl, ?_⟩; have HX0 : wt0.cell? ⟨w.heap.size, 0, none⟩ = some (.int .i64 a0_0) := (by have h_ : World.cell? (w.alloc (.cells #[.int .i64 a0_0, .int .i64 a0_1, .int .i64 a0_2] 23)) ⟨w.heap.size, 0, none⟩ = some (.int .i64 a0_0) := (by first | (go_simp; done) | (simp [World.cell?, World.alloc_heap_new]; done) | (unfold World.cell?; rw [World.alloc_heap_new]; rfl)); exact (hb.cell (World.block_lt_of_cell? _ _ h_)).trans h_); have HX1 : wt0.cell? ⟨w.heap.size, 1, none⟩ = some (.int .i64 a0_1) := (by have h_ : World.cell? (w.alloc (.cells #[.int .i64 a0_0, .int .i64 a0_1, .int .i64 a0_2] 23)) ⟨w.heap.size, 1, none⟩ = some (.int .i64 a0_1) := (by first | (go_simp; done) | (simp [World.cell?, World.alloc_heap_new]; done) | (unfold World.cell?; rw [World.alloc_heap_new]; rfl)); exact (hb.cell (World.block_lt_of_cell? _ _ h_)).trans h_); have HX2 : wt0.cell? ⟨w.heap.size, 2, none⟩ = some (.int .i64 a0_2) := (by have h_ : World.cell? (w.alloc (.cells #[.int .i64 a0_0, .int .i64 a0_1, .int .i64 a0_2] 23)) ⟨w.heap.size, 2, none⟩ = some (.int .i64 a0_2) := (by first | (go_simp; done) | (simp [World.cell?, World.alloc_heap_new]; done) | (unfold World.cell?; rw [World.alloc_heap_new]; rfl)); exact (hb.cell (World.block_lt_of_cell? _ _ h_)).trans h_); have n_ := Aside0.mk (below_step (by repeat (first | (with_reducible first | exact HB.out | apply below_alloc | apply pw_below_drewN | apply below_drew1) | exact HB.out)) hb); clear HB; have HB := n_; clear n_; clear hb; have T1 := trivial) | ((with_reducible clear T1); (with_reducible refine gate_callee (f := 41) rfl ?_); refine goesL_ (some _) rfl rfl Try.func41 (by kernel_rfl) rfl #[.agg #[.int .i64 a0_0, .int .i64 a0_1, .int .i64 a0_2]] rfl (by (try simp only [List.map_toArray, List.map_cons, List.map_nil]); first | done | rfl) ?_; (with_reducible refine (spec_DividingCuts.calls k a0_0 a0_1 a0_2 W _ h1.out).mono ?_); rintro e w1 ⟨v1, rfl, ho0, hb⟩; refine ⟨_, rfl, ?_⟩; have HBW := Aside0.mk (below_step (by repeat (first | (with_reducible first | exact HB.out | apply below_alloc | apply pw_below_drewN | apply below_drew1) | exact HB.out)) hb); clear HB; obtain ⟨A1, c1, e1⟩ := Kd.S_slice ho0; subst e1; have HC1 := Aside0.mk (Kd.S_reads' ho0).2.2; have Hc1 := Aside0.mk (Kd.S_reads' ho0).2.1; have HB1 := Aside0.mk (Below.refl w1.heap.size w1); have n0_ : w1.cell? ⟨w.heap.size, 0, none⟩ = some (.int .i64 a0_0) := (hb.cell (World.block_lt_of_cell? _ _ HX0)).trans HX0; clear HX0; have HX0 := n0_; clear n0_; have n1_ : w1.cell? ⟨w.heap.size, 1, none⟩ = some (.int .i64 a0_1) := (hb.cell (World.block_lt_of_cell? _ _ HX1)).trans HX1; clear HX1; have HX1 := n1_; clear n1_; have n2_ : w1.cell? ⟨w.heap.size, 2, none⟩ = some (.int .i64 a0_2) := (hb.cell (World.block_lt_of_cell? _ _ HX2)).trans HX2; clear HX2; have HX2 := n2_; clear n2_; have HW0 := Aside0.mk HX0; have HW1 := Aside0.mk HX1; have HW2 := Aside0.mk HX2; clear ho0 hb; have T2 := trivial) | ((with_reducible clear T2); (with_reducible refine gate_callee (f := 16) rfl ?_); refine goesL_ (some _) rfl rfl Try.func16 (by kernel_rfl) rfl #[.agg #[.int .i64 a0_0, .int .i64 a0_1, .int .i64 a0_2]] rfl (by (try simp only [List.map_toArray, List.map_cons, List.map_nil]); first | done | rfl) ?_; (with_reducible refine (laws_toSurface.calls a0_0 a0_1 a0_2 a0_0 a0_1 a0_2 _ rfl).mono ?_); rintro e wt2 ⟨rfl, hb⟩; refine ⟨_, rfl, ?_⟩; have n0_ : wt2.cell? ⟨w.heap.size, 0, none⟩ = some (.int .i64 a0_0) := (hb.cell (World.block_lt_of_cell? _ _ HX0)).trans HX0; clear HX0; have HX0 := n0_; clear n0_; have n1_ : wt2.cell? ⟨w.heap.size, 1, none⟩ = some (.int .i64 a0_1) := (hb.cell (World.block_lt_of_cell? _ _ HX1)).trans HX1; clear HX1; have HX1 := n1_; clear n1_; have n2_ : wt2.cell? ⟨w.heap.size, 2, none⟩ = some (.int .i64 a0_2) := (hb.cell (World.block_lt_of_cell? _ _ HX2)).trans HX2; clear HX2; have HX2 := n2_; clear n2_; have n_ := Aside0.mk (below_step (by repeat (first | (with_reducible first | exact HB1.out | apply below_alloc | apply pw_below_drewN | apply below_drew1) | exact HB1.out)) hb); clear HB1; have HB1 := n_; clear n_; clear hb; have T3 := trivial) | ((with_reducible clear T3); (with_reducible refine gate_callee (f := 42) rfl ?_); refine goesL_ (some _) rfl rfl Try.func42 (by kernel_rfl) rfl #[.agg #[.int .i64 a0_0, .int .i64 a0_1, .int .i64 a0_2]] rfl (by (try simp only [List.map_toArray, List.map_cons, List.map_nil]); first | done | rfl) ?_; (with_reducible refine (impl_DividingCuts.calls k a0_0 a0_1 a0_2 W _ h2.out).mono ?_); rintro e w2 ⟨v2, rfl, ho0, hb⟩; refine ⟨_, rfl, ?_⟩; have HO2 := Aside0.mk (Kd.S_lower ho0 (below_size (by repeat (first | (with_reducible first | exact HB1.out | apply below_alloc | apply pw_below_drewN | apply below_drew1) | exact HB1.out)))); have n_ := Aside0.mk (below_step (by repeat (first | (with_reducible first | exact HB1.out | apply below_alloc | apply pw_below_drewN | apply below_drew1) | exact HB1.out)) hb); clear HB1; have HB1 := n_; clear n_; have n0_ : w2.cell? ⟨w.heap.size, 0, none⟩ = some (.int .i64 a0_0) := (hb.cell (World.block_lt_of_cell? _ _ HX0)).trans HX0; clear HX0; have HX0 := n0_; clear n0_; have n1_ : w2.cell? ⟨w.heap.size, 1, none⟩ = some (.int .i64 a0_1) := (hb.cell (World.block_lt_of_cell? _ _ HX1)).trans HX1; clear HX1; have HX1 := n1_; clear n1_; have n2_ : w2.cell? ⟨w.heap.size, 2, none⟩ = some (.int .i64 a0_2) := (hb.cell (World.block_lt_of_cell? _ _ HX2)).trans HX2; clear HX2; have HX2 := n2_; clear n2_; clear ho0 hb; obtain ⟨A2, c2, e2⟩ := Kd.S_slice HO2.out; subst e2; have T4 := trivial) | ((with_reducible clear T4); (with_reducible refine gate_callee (f := 43) rfl ?_); refine goesL_ (some _) rfl rfl Try.func43 (by kernel_rfl) rfl #[.slice A2 W.length c2, .slice A1 W.length c1] rfl (by (try simp only [List.map_toArray, List.map_cons, List.map_nil]); first | done | rfl) ?_; (with_reducible refine (laws_eqSurfaceSS.calls k _ _ W _ _ W true _ ?side1 ?side2 ?side3 ?side4 h3.out).mono ?_); (case side1 => repeat (first | exact (Kd.S_reads' HO2.out).2.2 | (with_reducible refine Kd.C_alloc ?_ _) | (with_reducible refine Kd.C_drewN ?_ _) | (with_reducible refine Kd.C_drew ?_))); (case side2 => exact (Kd.S_reads' HO2.out).2.1); (case side3 => repeat (first | exact (Kd.C_below HC1.out HB1.out) | (with_reducible refine Kd.C_alloc ?_ _) | (with_reducible refine Kd.C_drewN ?_ _) | (with_reducible refine Kd.C_drew ?_))); (case side4 => exact Hc1.out); rintro e wq4 ⟨rfl, hb⟩; refine ⟨_, rfl, ?_⟩; have n3_ := Aside0.mk (Kd.S_below (by (with_reducible repeat (first | apply Kd.S_alloc | apply Kd.S_drewN | apply Kd.S_drew)); exact HO2.out) hb); clear HO2; have HO2 := n3_; clear n3_; have n_ := Aside0.mk (below_step (by repeat (first | (with_reducible first | exact HB1.out | apply below_alloc | apply pw_below_drewN | apply below_drew1) | exact HB1.out)) hb); clear HB1; have HB1 := n_; clear n_; have n0_ : wq4.cell? ⟨w.heap.size, 0, none⟩ = some (.int .i64 a0_0) := (hb.cell (World.block_lt_of_cell? _ _ HX0)).trans HX0; clear HX0; have HX0 := n0_; clear n0_; have n1_ : wq4.cell? ⟨w.heap.size, 1, none⟩ = some (.int .i64 a0_1) := (hb.cell (World.block_lt_of_cell? _ _ HX1)).trans HX1; clear HX1; have HX1 := n1_; clear n1_; have n2_ : wq4.cell? ⟨w.heap.size, 2, none⟩ = some (.int .i64 a0_2) := (hb.cell (World.block_lt_of_cell? _ _ HX2)).trans HX2; clear HX2; have HX2 := n2_; clear n2_; clear hb; have T5 := trivial) | ((with_reducible clear T5); (with_reducible refine gate_callee (f := 44) rfl ?_); refine goesL_ (some _) rfl rfl Try.func44 (by kernel_rfl) rfl #[.slice A2 W.length c2, .int .i64 1] rfl (by (try simp only [List.map_toArray, List.map_cons, List.map_nil]); first | done | rfl) ?_; (with_reducible refine (laws_markSurfaceSS.calls k (fun _ => True) _ W 1 m W' w1 _ ?side1 ?side2 h4.out).mono ?_); (case side1 => repeat (first | (with_reducible first | exact HB1.out | apply below_alloc | apply pw_below_drewN | apply below_drew1) | exact HB1.out)); (case side2 => (with_reducible repeat (first | apply Kd.S_alloc | apply Kd.S_drewN | apply Kd.S_drew)); exact HO2.out); rintro e w3 ⟨rfl, ho3, hb3, hk3⟩; refine ⟨_, rfl, ?_⟩; clear HO2 HB1 hk3; have HO3 := Aside0.mk ho3; have HB1 := Aside0.mk hb3; have HL := Aside0.mk (Kd.S_reads' ho3).1; clear HX0 HX1 HX2; have HX0 : w3.cell? ⟨w.heap.size, 0, none⟩ = some (.int .i64 a0_0) := (hb3.cell (World.block_lt_of_cell? _ _ HW0.out)).trans HW0.out; have HX1 : w3.cell? ⟨w.heap.size, 1, none⟩ = some (.int .i64 a0_1) := (hb3.cell (World.block_lt_of_cell? _ _ HW1.out)).trans HW1.out; have HX2 : w3.cell? ⟨w.heap.size, 2, none⟩ = some (.int .i64 a0_2) := (hb3.cell (World.block_lt_of_cell? _ _ HW2.out)).trans HW2.out; clear ho3 hb3; have T6 := trivial) | ((with_reducible clear T6); (with_reducible refine gate_callee (f := 45) rfl ?_); refine goesL_ (some _) rfl rfl Try.func45 (by kernel_rfl) rfl #[.slice A2 W.length c2, .int .i64 1] rfl (by (try simp only [List.map_toArray, List.map_cons, List.map_nil]); first | done | rfl) ?_; (with_reducible refine (held' k _ _ W' W.length 1 m _ HL.out ?side1 ?side2 h5.out).mono ?_); (case side1 => repeat (first | exact (Kd.S_reads' HO3.out).2.2 | (with_reducible refine Kd.C_alloc ?_ _) | (with_reducible refine Kd.C_drewN ?_ _) | (with_reducible refine Kd.C_drew ?_))); (case side2 => exact (Kd.S_reads' HO3.out).2.1); rintro e w' ⟨rfl, ⟨nd, rfl⟩⟩; refine ⟨_, rfl, ?_⟩; have T7 := trivial) | ((with_reducible clear T7); (with_reducible refine gate_callee (f := 16) rfl ?_); refine goesL_ (some _) rfl rfl Try.func16 (by kernel_rfl) rfl #[.agg #[.int .i64 a0_0, .int .i64 a0_1, .int .i64 a0_2]] rfl (by (try simp only [List.map_toArray, List.map_cons, List.map_nil]); first | done | rfl) ?_; (with_reducible refine (laws_toSurface.calls a0_0 a0_1 a0_2 a0_0 a0_1 a0_2 _ rfl).mono ?_); rintro e wt7 ⟨rfl, hb⟩; refine ⟨_, rfl, ?_⟩; have n0_ : wt7.cell? ⟨w.heap.size, 0, none⟩ = some (.int .i64 a0_0) := (hb.cell (World.block_lt_of_cell? _ _ HX0)).trans HX0; clear HX0; have HX0 := n0_; clear n0_; have n1_ : wt7.cell? ⟨w.heap.size, 1, none⟩ = some (.int .i64 a0_1) := (hb.cell (World.block_lt_of_cell? _ _ HX1)).trans HX1; clear HX1; have HX1 := n1_; clear n1_; have n2_ : wt7.cell? ⟨w.heap.size, 2, none⟩ = some (.int .i64 a0_2) := (hb.cell (World.block_lt_of_cell? _ _ HX2)).trans HX2; clear HX2; have HX2 := n2_; clear n2_; have n3_ := Aside0.mk (Kd.S_below (by (with_reducible repeat (first | apply Kd.S_alloc | apply Kd.S_drewN | apply Kd.S_drew)); exact HO3.out) hb); clear HO3; have HO3 := n3_; clear n3_; have n_ := Aside0.mk (below_step (by repeat (first | (with_reducible first | exact HB1.out | apply below_alloc | apply pw_below_drewN | apply below_drew1) | exact HB1.out)) hb); clear HB1; have HB1 := n_; clear n_; clear hb; have T8 := trivial) | ((with_reducible clear T8); (with_reducible refine gate_callee (f := 42) rfl ?_); refine goesL_ (some _) rfl rfl Try.func42 (by kernel_rfl) rfl #[.agg #[.int .i64 a0_0, .int .i64 a0_1, .int .i64 a0_2]] rfl (by (try simp only [List.map_toArray, List.map_cons, List.map_nil]); first | done | rfl) ?_; (with_reducible refine (impl_DividingCuts.calls k a0_0 a0_1 a0_2 W _ h2.out).mono ?_); rintro e w5 ⟨v5, rfl, ho0, hb⟩; refine ⟨_, rfl, ?_⟩; have n3_ := Aside0.mk (Kd.S_below (by (with_reducible repeat (first | apply Kd.S_alloc | apply Kd.S_drewN | apply Kd.S_drew)); exact HO3.out) hb); clear HO3; have HO3 := n3_; clear n3_; have n_ := Aside0.mk (below_step (by repeat (first | (with_reducible first | exact HB1.out | apply below_alloc | apply pw_below_drewN | apply below_drew1) | exact HB1.out)) hb); clear HB1; have HB1 := n_; clear n_; have n0_ : w5.cell? ⟨w.heap.size, 0, none⟩ = some (.int .i64 a0_0) := (hb.cell (World.block_lt_of_cell? _ _ HX0)).trans HX0; clear HX0; have HX0 := n0_; clear n0_; have n1_ : w5.cell? ⟨w.heap.size, 1, none⟩ = some (.int .i64 a0_1) := (hb.cell (World.block_lt_of_cell? _ _ HX1)).trans HX1; clear HX1; have HX1 := n1_; clear n1_; have n2_ : w5.cell? ⟨w.heap.size, 2, none⟩ = some (.int .i64 a0_2) := (hb.cell (World.block_lt_of_cell? _ _ HX2)).trans HX2; clear HX2; have HX2 := n2_; clear n2_; have HO5 := Aside0.mk ho0; clear ho0 hb; obtain ⟨A5, c5, e5⟩ := Kd.S_slice HO5.out; subst e5; have T9 := trivial) | ((with_reducible clear T9); (with_reducible refine gate_callee (f := 43) rfl ?_); refine goesL_ (some _) rfl rfl Try.func43 (by kernel_rfl) rfl #[.slice A5 W.length c5, .slice A1 W.length c1] rfl (by (try simp only [List.map_toArray, List.map_cons, List.map_nil]); first | done | rfl) ?_; (with_reducible refine (laws_eqSurfaceSS.calls k _ _ W _ _ W true _ ?side1 ?side2 ?side3 ?side4 h3.out).mono ?_); (case side1 => repeat (first | exact (Kd.S_reads' HO5.out).2.2 | (with_reducible refine Kd.C_alloc ?_ _) | (with_reducible refine Kd.C_drewN ?_ _) | (with_reducible refine Kd.C_drew ?_))); (case side2 => exact (Kd.S_reads' HO5.out).2.1); (case side3 => repeat (first | exact (Kd.C_below HC1.out HB1.out) | (with_reducible refine Kd.C_alloc ?_ _) | (with_reducible refine Kd.C_drewN ?_ _) | (with_reducible refine Kd.C_drew ?_))); (case side4 => exact Hc1.out); rintro e wq9 ⟨rfl, hb⟩; refine ⟨_, rfl, ?_⟩; have n3_ := Aside0.mk (Kd.S_below (by (with_reducible repeat (first | apply Kd.S_alloc | apply Kd.S_drewN | apply Kd.S_drew)); exact HO3.out) hb); clear HO3; have HO3 := n3_; clear n3_; have n3_ := Aside0.mk (Kd.S_below (by (with_reducible repeat (first | apply Kd.S_alloc | apply Kd.S_drewN | apply Kd.S_drew)); exact HO5.out) hb); clear HO5; have HO5 := n3_; clear n3_; have n_ := Aside0.mk (below_step (by repeat (first | (with_reducible first | exact HB1.out | apply below_alloc | apply pw_below_drewN | apply below_drew1) | exact HB1.out)) hb); clear HB1; have HB1 := n_; clear n_; have n0_ : wq9.cell? ⟨w.heap.size, 0, none⟩ = some (.int .i64 a0_0) := (hb.cell (World.block_lt_of_cell? _ _ HX0)).trans HX0; clear HX0; have HX0 := n0_; clear n0_; have n1_ : wq9.cell? ⟨w.heap.size, 1, none⟩ = some (.int .i64 a0_1) := (hb.cell (World.block_lt_of_cell? _ _ HX1)).trans HX1; clear HX1; have HX1 := n1_; clear n1_; have n2_ : wq9.cell? ⟨w.heap.size, 2, none⟩ = some (.int .i64 a0_2) := (hb.cell (World.block_lt_of_cell? _ _ HX2)).trans HX2; clear HX2; have HX2 := n2_; clear n2_; clear hb; have T10 := trivial) | ((with_reducible clear T10); (with_reducible refine gate_callee (f := 45) rfl ?_); refine goesL_ (some _) rfl rfl Try.func45 (by kernel_rfl) rfl #[.slice A2 W.length c2, .int .i64 1] rfl (by (try simp only [List.map_toArray, List.map_cons, List.map_nil]); first | done | rfl) ?_; (with_reducible refine (held' k _ _ W' W.length 1 m _ HL.out ?side1 ?side2 h5.out).mono ?_); (case side1 => repeat (first | exact (Kd.S_reads' HO3.out).2.2 | (with_reducible refine Kd.C_alloc ?_ _) | (with_reducible refine Kd.C_drewN ?_ _) | (with_reducible refine Kd.C_drew ?_))); (case side2 => exact (Kd.S_reads' HO3.out).2.1); rintro e w' ⟨rfl, ⟨nd, rfl⟩⟩; refine ⟨_, rfl, ?_⟩; have T11 := trivial))
  go_ret
  exact ⟨rfl, below_step HBW.out (by repeat (first | (with_reducible first | exact HB1.out | apply below_alloc | apply pw_below_drewN | apply below_drew1) | exact HB1.out))⟩
def laws_FnExactDividingCuts.f (k : Nat) (a0_0 : Int) (a0_1 : Int) (a0_2 : Int) : Option Bool := (spec_DividingCuts.f k a0_0 a0_1 a0_2).bind fun s => (impl_DividingCuts.f k a0_0 a0_1 a0_2).bind fun g => if g = s then ((laws_eqSurfaceSS.f k s s).bind fun b => if b = true then ((laws_markSurfaceSS.f k s 1).bind fun t => (laws_heldSurfaceSS.f k t.2 1).bind fun q => if q = t.1 then (if 0 ≤ q then some true else none) else none) else none) else none
theorem laws_FnExactDividingCuts.calls (k : Nat) (a0_0 : Int) (a0_1 : Int) (a0_2 : Int) (r : Bool) (w : World) (hr0_ : r = true) (h : laws_FnExactDividingCuts.f k a0_0 a0_1 a0_2 = some r) :
    Calls Try.prog 12 #[.agg #[.int .i64 a0_0, .int .i64 a0_1, .int .i64 a0_2]] w fun e w' => e = .returned (.bool r) ∧ Below w.heap.size w w' := by
  subst hr0_
  unfold laws_FnExactDividingCuts.f at h
  obtain ⟨W, h1, h⟩ := Option.bind_eq_some_iff.mp h
  obtain ⟨G, h2, h⟩ := Option.bind_eq_some_iff.mp h
  by_cases e : G = W
  · subst e
    replace h := (if_pos rfl).symm.trans h
    obtain ⟨b, h3, h⟩ := Option.bind_eq_some_iff.mp h
    cases b with
    | false => cases h
    | true =>
      obtain ⟨⟨m, W'⟩, h4, h⟩ := Option.bind_eq_some_iff.mp h
      obtain ⟨q, h5, h⟩ := Option.bind_eq_some_iff.mp h
      replace h : (if q = m then (if 0 ≤ q then some true else none) else none) = some true := h
      by_cases e : q = m
      · subst e
        rw [if_pos rfl] at h
        by_cases h6 : 0 ≤ q
        · exact law_calls k a0_0 a0_1 a0_2 G W' q w ⟨h1⟩ ⟨h2⟩ ⟨h3⟩ ⟨h4⟩ ⟨h5⟩ h6
        · rw [if_neg h6] at h
          cases h
      · rw [if_neg e] at h
        cases h
  · rw [if_neg e] at h
    cases h

end Go.Proofs.Ytaamfciheanedaa.PFnExactDividingCuts
