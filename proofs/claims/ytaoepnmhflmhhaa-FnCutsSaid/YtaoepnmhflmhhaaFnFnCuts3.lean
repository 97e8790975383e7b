/- What functions of the program give: each contract holds for all arguments that its own sentence names. -/
import Derived.Test.YtaoepnmhflmhhaaFnFnCuts2
set_option linter.unusedVariables false
set_option linter.unusedSimpArgs false
section
open Go Go.Proofs.YtaoepnmhflmhhaaVe Go.Proofs.YtaoepnmhflmhhaaTv Go.Proofs
namespace Go.Proofs.YtaoepnmhflmhhaaTv
set_option maxRecDepth 8000
set_option maxHeartbeats 2000000
theorem FnCutsA (code : List Int) (hc2 : (code.length : Int) ≤ 1048576) (hP : isP (d21 code (s0 code)).1 = true) (hN : (-10 ≤ bl code 15 (s0 code) - 11 ∧ bl code 15 (s0 code) - 11 ≤ 2)) : ConS Try.prog 7 [.val (.list (.int .u8)) code] (.b true) := by
  refine conS_of hmix hTab Try.func7 rfl rfl (by kernel_rfl) (by show 1 ≤ Try.f7.ntmps; decide) rfl ?_
  refine stp ?_; try with_reducible exact True.intro
  refine useT ((bigFC code (by omega)).toT) ?_; try with_reducible exact True.intro
  rw [decide_eq_false (show ¬ (code.length : Int) > 1048576 by omega)]
  have wd := DrawCutAround code hc2
  have wj := DrawJoinBorders code hc2
  have we := DrawSurfacesWith code hc2
  have rx := d21_rng code (s0 code)
  have ry := d21_rng code (d21 code (s0 code)).2
  have rn := bl_rng code (show (1 : Int) ≤ 15 by decide) (s0 code)
  generalize (d21 code (s0 code)).1 = x at *
  generalize (d21 code (d21 code (s0 code)).2).1 = y at *
  generalize hn : bl code 15 (s0 code) - 11 = n at *
  replace rn : -11 ≤ n ∧ n ≤ 3 := by omega
  clear hn
  have wcI := CutAroundI x
  have wcS := CutAroundS x
  have wgI := GlueBordersI x
  have wgS := GlueBordersS x
  have wjI := JoinBordersI x y
  have wjS := JoinBordersS x y
  have wlI := DividingCutsI x hP
  have wlS := DividingCutsS x hP
  have wsI := SurfacesWithI n hN
  have wsS := SurfacesWithS n
  rw [if_pos hN] at wsS
  have wmI := MostCurvesI x
  have wmS := MostCurvesS x
  have wpI := CountPiecesI x
  have wpS := CountPiecesS x
  have wex := EulerS x
  have wey := EulerS y
  have hcg := @cut_glue x
  have hja := @join_adds x y
  have wgc := GlueBordersI (cutM x).1
  have wec := EulerS (cutM x).1
  have wej := EulerS (joiM x y).1
  have wis := IsSurfaceS x
  have hpc := @pieces x
  generalize isS x = si at *
  have ex := eul_rng x
  have ey := eul_rng y
  have ec := eul_rng (cutM x).1
  have ej := eul_rng (joiM x y).1
  have px := pie_rng x
  have mx := mos_rng x
  have hrow := @d1_rows x hP
  have hfr := @f1_rows n
  have hdl := d1_len x (x.1.toNat + 1)
  have hP' := hP
  have hfl := f1_len n 21
  generalize eul x = e1 at *
  generalize eul y = e2 at *
  generalize eul (cutM x).1 = e3 at *
  generalize eul (joiM x y).1 = e4 at *
  generalize pieM x = p1 at *
  generalize mosM x = m1 at *
  generalize hgc : gluM (cutM x).1 = gc at *
  generalize hcx : cutM x = cx at *
  generalize hgx : gluM x = gx at *
  generalize hjx : joiM x y = jx at *
  obtain ⟨⟨c1, c2, c3⟩, ck⟩ := cx
  obtain ⟨⟨g1, g2, g3⟩, gk⟩ := gx
  obtain ⟨⟨j1, j2, j3⟩, jk⟩ := jx
  obtain ⟨⟨b1, b2, b3⟩, bk⟩ := gc
  obtain ⟨xh, xc, xb⟩ := x
  obtain ⟨yh, yc, yb⟩ := y
  dsimp only [tolV, sfV] at *
  generalize d1 (xh, xc, xb) (xh.toNat + 1) = L at *
  generalize f1 n 21 = F at *
  replace hdl : (L.length : Int) ≤ 441 := by
    have := isP_rng hP
    have h2 : (xb.toNat + 1) * (xh.toNat + 1) ≤ 21 * 21 := Nat.mul_le_mul (by dsimp only at this; omega) (by dsimp only at this; omega)
    omega
  refine stp ?_; try with_reducible exact True.intro
  refine useT (wd) ?_; try with_reducible exact True.intro
  refine useT wcI.toT ?_ ⟨⟨rfl, rfl, rfl, trivial⟩, trivial⟩
  refine stp ?_; try with_reducible exact True.intro
  refine useT wcS.toT ?_ ⟨⟨rfl, rfl, rfl, trivial⟩, trivial⟩
  refine stp ?_; try with_reducible exact True.intro
  refine useT wlI ?_ ⟨⟨rfl, rfl, rfl, trivial⟩, trivial⟩
  refine stp ?_; try with_reducible exact True.intro
  refine useT wlS ?_ ⟨⟨rfl, rfl, rfl, trivial⟩, trivial⟩
  refine stp ?_; try with_reducible exact True.intro
  refine useT wgI.toT ?_ ⟨⟨rfl, rfl, rfl, trivial⟩, trivial⟩
  refine stp ?_; try with_reducible exact True.intro
  refine useT wgS.toT ?_ ⟨⟨rfl, rfl, rfl, trivial⟩, trivial⟩
  refine stp ?_; try with_reducible exact True.intro
  refine useT (wj) ?_; try with_reducible exact True.intro
  refine useT wjI.toT ?_ ⟨⟨rfl, rfl, rfl, trivial⟩, ⟨rfl, rfl, rfl, trivial⟩, trivial⟩
  refine stp ?_; try with_reducible exact True.intro
  refine useT wjS.toT ?_ ⟨⟨rfl, rfl, rfl, trivial⟩, ⟨rfl, rfl, rfl, trivial⟩, trivial⟩
  refine stp ?_; try with_reducible exact True.intro
  refine useT (we) ?_; try with_reducible exact True.intro
  refine useT (wsI) ?_; try with_reducible exact True.intro
  repeat (refine brF (by simp) ?_; refine stp ?_; try with_reducible exact True.intro)
  refine .inr ⟨_, _, _, wsS, by repeat (first | exact trivial | refine ⟨by first | exact rfl | exact trivial | exact ⟨_, rfl, rfl⟩ | exact ⟨_, _, rfl, by first | (simp; done) | (simp; omega), by first | (simp; done) | (simp [List.take_of_length_le]; done) | (rw [List.drop_zero]; exact List.take_of_length_le (by first | omega | (simp; omega))) | (simp [List.take_of_length_le]; omega)⟩ | exact ⟨_, rfl, by first | (simp; done) | (simp; omega), by first | (simp; done) | (simp [List.take_of_length_le]; done) | (rw [List.drop_zero]; exact List.take_of_length_le (by first | omega | (simp; omega))) | (simp [List.take_of_length_le]; omega)⟩, ?_⟩), rfl, rfl, by first | exact ⟨rfl, trivial⟩ | decide | (simp [okOs, okO]; done) | (simp [okOs, okO, okWs, okW, most]; done) | (simp [okOs, okO, okWs, okW, most]; omega), ?_⟩; refine stp ?_; try with_reducible exact True.intro
  refine useT ((sameSurfaces F F (by omega) (by omega)).toT) ?_; try with_reducible exact True.intro
  repeat (refine brF (by simp) ?_; refine stp ?_; try with_reducible exact True.intro)
  (first | refine .inl ⟨_, _, wmI, ⟨⟨rfl, rfl, rfl, trivial⟩, trivial⟩, ?_⟩ | refine useT (wmI).toT ?_ ⟨⟨rfl, rfl, rfl, trivial⟩, trivial⟩); refine stp ?_; try with_reducible exact True.intro
  (first | refine .inl ⟨_, _, wmS, ⟨⟨rfl, rfl, rfl, trivial⟩, trivial⟩, ?_⟩ | refine useT (wmS).toT ?_ ⟨⟨rfl, rfl, rfl, trivial⟩, trivial⟩); refine stp ?_; try with_reducible exact True.intro
  refine brF (by simp) ?_
  refine stp ?_; try with_reducible exact True.intro
  (first | refine .inl ⟨_, _, wpI, ⟨⟨rfl, rfl, rfl, trivial⟩, trivial⟩, ?_⟩ | refine useT (wpI).toT ?_ ⟨⟨rfl, rfl, rfl, trivial⟩, trivial⟩); refine stp ?_; try with_reducible exact True.intro
  (first | refine .inl ⟨_, _, wpS, ⟨⟨rfl, rfl, rfl, trivial⟩, trivial⟩, ?_⟩ | refine useT (wpS).toT ?_ ⟨⟨rfl, rfl, rfl, trivial⟩, trivial⟩); refine stp ?_; try with_reducible exact True.intro
  refine brF (by simp) ?_
  refine stp ?_; try with_reducible exact True.intro
  refine Br.mk (fun hck => ?_) (fun hck => ?_)
  · obtain ⟨he, hb⟩ := hcg hck
    simp only [Prod.mk.injEq] at hb
    obtain ⟨⟨hb1, hb2, hb3⟩, hbk⟩ := hb
    replace hb1 := hb1.symm; replace hb2 := hb2.symm; replace hb3 := hb3.symm; replace he := he.symm
    subst hb1 hb2 hb3 hbk he
    refine stp ?_; try with_reducible exact True.intro
    refine useT wgc.toT ?_ ⟨⟨rfl, rfl, rfl, trivial⟩, trivial⟩
    refine stp ?_; try with_reducible exact True.intro
    (first | refine .inl ⟨_, _, wec, ⟨⟨rfl, rfl, rfl, trivial⟩, trivial⟩, ?_⟩ | refine useT (wec).toT ?_ ⟨⟨rfl, rfl, rfl, trivial⟩, trivial⟩); refine stp ?_; try with_reducible exact True.intro
    (first | refine .inl ⟨_, _, wex, ⟨⟨rfl, rfl, rfl, trivial⟩, trivial⟩, ?_⟩ | refine useT (wex).toT ?_ ⟨⟨rfl, rfl, rfl, trivial⟩, trivial⟩); refine stp ?_; try with_reducible exact True.intro
    refine brF (by simp) ?_
    refine stp ?_; try with_reducible exact True.intro
    refine brF (by simp) ?_
    refine stp ?_; try with_reducible exact True.intro
    refine ⟨Nat, fun k => k ≤ L.length, fun k => L.length - k, fun k => [(3, .pcell 0 0), (8, .own 1 0 L.length), (9, .own 2 0 L.length), (14, .pcell 3 0), (15, .pcell 4 0), (16, .pcell 5 0), (17, .b jk), (20, .i n), (21, .own 6 0 F.length), (24, .i k)], fun k => [.vars [.i xh, .i xc, .i xb], .arr (.list sqT) L false, .arr (.list sqT) L false, .vars [.i xh, .i xc, .i xb], .vars [.i yh, .i yc, .i yb], .vars [.i j1, .i j2, .i j3], .arr sqT F true], ⟨0, ⟨.frz [], [0, 3, 4, 7, 8, 9, 11], ⟨rfl, rfl, rfl, rfl, rfl, rfl, rfl, rfl, rfl, rfl, trivial⟩, ⟨rfl, rfl, rfl, rfl, rfl, rfl, rfl, trivial⟩, by decide, rfl, rfl, rfl⟩, Nat.zero_le _⟩, fun k hk => ?_⟩
    refine stp ?_; try with_reducible exact True.intro
    refine Br.mk (fun h5 => ?_) (fun h5 => ?_) <;> simp only [decide_eq_true_eq, decide_eq_false_iff_not, ne_eq, Decidable.not_not, Bool.not_eq_eq_eq_not, Bool.not_true, Bool.not_false] at h5
    · obtain ⟨r1, r2, r3⟩ := hrow k (by omega)
      have wjr := JoinBordersI (unq (rdT sqT (rdT (.list sqT) L k) 0)) (unq (rdT sqT (rdT (.list sqT) L k) 1))
      have we1 := EulerS (unq (rdT sqT (rdT (.list sqT) L k) 0))
      have we2 := EulerS (unq (rdT sqT (rdT (.list sqT) L k) 1))
      have er1 := eul_rng (unq (rdT sqT (rdT (.list sqT) L k) 0))
      have er2 := eul_rng (unq (rdT sqT (rdT (.list sqT) L k) 1))
      have r4 : (List.length (rdT (.list sqT) L ((Int.toNat (k : Int) : Nat) : Int)) : Int) = 2 := congrArg (Nat.cast (R := Int)) r1
      rw [r2] at wjr
      generalize eul (unq (rdT sqT (rdT (.list sqT) L k) 0)) = u1 at *
      generalize eul (unq (rdT sqT (rdT (.list sqT) L k) 1)) = u2 at *
      dsimp only [sfV, unq, tolV] at wjr we1 we2
      refine stp ?_; try with_reducible exact True.intro
      refine brF (decide_eq_false fun h => h (congrArg (Nat.cast (R := Int)) r1)) ?_
      refine stp ?_; try with_reducible exact True.intro
      (first | refine .inl ⟨_, _, (sameSurfaces (rdT (.list sqT) L (k : Int)) (rdT (.list sqT) L (k : Int)) (by omega) (by omega)), (by repeat (first | exact trivial | refine ⟨by first | exact rfl | exact trivial | exact ⟨_, rfl, rfl⟩, ?_⟩)), ?_⟩ | refine useT ((sameSurfaces (rdT (.list sqT) L (k : Int)) (rdT (.list sqT) L (k : Int)) (by omega) (by omega))).toT ?_); refine stp ?_; try with_reducible exact True.intro
      refine brF (by simp) ?_
      refine stp ?_; try with_reducible exact True.intro
      refine .inl ⟨_, _, wjr, ⟨⟨rfl, rfl, rfl, trivial⟩, ⟨rfl, rfl, rfl, trivial⟩, trivial⟩, ?_⟩
      refine stp ?_; try with_reducible exact True.intro
      refine brF (by simp) ?_
      refine stp ?_; try with_reducible exact True.intro
      (first | refine .inl ⟨_, _, we1, ⟨⟨rfl, rfl, rfl, trivial⟩, trivial⟩, ?_⟩ | refine useT (we1).toT ?_ ⟨⟨rfl, rfl, rfl, trivial⟩, trivial⟩); refine stp ?_; try with_reducible exact True.intro
      (first | refine .inl ⟨_, _, we2, ⟨⟨rfl, rfl, rfl, trivial⟩, trivial⟩, ?_⟩ | refine useT (we2).toT ?_ ⟨⟨rfl, rfl, rfl, trivial⟩, trivial⟩); refine stp ?_; try with_reducible exact True.intro
      (first | refine .inl ⟨_, _, wex, ⟨⟨rfl, rfl, rfl, trivial⟩, trivial⟩, ?_⟩ | refine useT (wex).toT ?_ ⟨⟨rfl, rfl, rfl, trivial⟩, trivial⟩); refine stp ?_; try with_reducible exact True.intro
      refine brF (by simp; omega) ?_
      refine stp ?_; try with_reducible exact True.intro
      exact ⟨k + 1, ⟨.frz [], [0, 1, 2, 3, 4, 5, 6], ⟨rfl, rfl, rfl, rfl, rfl, rfl, rfl, rfl, rfl, rfl, trivial⟩, ⟨rfl, rfl, rfl, rfl, rfl, rfl, rfl, trivial⟩, by decide, rfl, rfl, rfl⟩, by omega, by first | omega | (dsimp only; omega)⟩
    · refine stp ?_; try with_reducible exact True.intro
      refine ⟨Nat, fun k => k ≤ F.length, fun k => F.length - k, fun k => [(3, .pcell 0 0), (14, .pcell 1 0), (15, .pcell 2 0), (16, .pcell 3 0), (17, .b jk), (20, .i n), (21, .own 4 0 F.length), (27, .i k)], fun k => [.vars [.i xh, .i xc, .i xb], .vars [.i xh, .i xc, .i xb], .vars [.i yh, .i yc, .i yb], .vars [.i j1, .i j2, .i j3], .arr sqT F true], ⟨0, ⟨.frz [], [0, 3, 4, 5, 6], ⟨rfl, rfl, rfl, rfl, rfl, rfl, rfl, rfl, trivial⟩, ⟨rfl, rfl, rfl, rfl, rfl, trivial⟩, by decide, rfl, rfl, rfl⟩, Nat.zero_le _⟩, fun k hk => ?_⟩
      refine stp ?_; try with_reducible exact True.intro
      refine Br.mk (fun h6 => ?_) (fun h6 => ?_) <;> simp only [decide_eq_true_eq, decide_eq_false_iff_not, ne_eq, Decidable.not_not, Bool.not_eq_eq_eq_not, Bool.not_true, Bool.not_false] at h6
      · have r5 := hfr k (by omega)
        have we3 := EulerS (unq (rdT sqT F k))
        rw [r5] at we3
        dsimp only [sfV, unq] at we3
        refine stp ?_; try with_reducible exact True.intro
        refine useT we3.toT ?_ ⟨⟨rfl, rfl, rfl, trivial⟩, trivial⟩
        refine stp ?_; try with_reducible exact True.intro
        refine brF (by simp) ?_
        refine stp ?_; try with_reducible exact True.intro
        exact ⟨k + 1, ⟨.frz [], [0, 1, 2, 3, 4], ⟨rfl, rfl, rfl, rfl, rfl, rfl, rfl, rfl, trivial⟩, ⟨rfl, rfl, rfl, rfl, rfl, trivial⟩, by decide, rfl, rfl, rfl⟩, by omega, by first | omega | (dsimp only; omega)⟩
      · refine stp ?_; try with_reducible exact True.intro
        cases si
        · refine useT wis.toT ?_ ⟨⟨rfl, rfl, rfl, trivial⟩, trivial⟩
          refine stp ?_; try with_reducible exact True.intro
          cases jk
          · refine stp ?_; try with_reducible exact True.intro
          · have e5 := hja rfl
            refine stp ?_; try with_reducible exact True.intro
            (first | refine .inl ⟨_, _, wej, ⟨⟨rfl, rfl, rfl, trivial⟩, trivial⟩, ?_⟩ | refine useT (wej).toT ?_ ⟨⟨rfl, rfl, rfl, trivial⟩, trivial⟩); refine stp ?_; try with_reducible exact True.intro
            (first | refine .inl ⟨_, _, wex, ⟨⟨rfl, rfl, rfl, trivial⟩, trivial⟩, ?_⟩ | refine useT (wex).toT ?_ ⟨⟨rfl, rfl, rfl, trivial⟩, trivial⟩); refine stp ?_; try with_reducible exact True.intro
            (first | refine .inl ⟨_, _, wey, ⟨⟨rfl, rfl, rfl, trivial⟩, trivial⟩, ?_⟩ | refine useT (wey).toT ?_ ⟨⟨rfl, rfl, rfl, trivial⟩, trivial⟩); refine stp ?_; try with_reducible exact True.intro
            simp [e5]
        · refine useT wis.toT ?_ ⟨⟨rfl, rfl, rfl, trivial⟩, trivial⟩
          refine stp ?_; try with_reducible exact True.intro
          refine Br.mk (fun hxc => ?_) (fun hxc => ?_) <;> simp only [decide_eq_true_eq, decide_eq_false_iff_not, ne_eq, Decidable.not_not, Bool.not_eq_eq_eq_not, Bool.not_true, Bool.not_false] at hxc
          · refine stp ?_; try with_reducible exact True.intro
            (first | refine .inl ⟨_, _, wex, ⟨⟨rfl, rfl, rfl, trivial⟩, trivial⟩, ?_⟩ | refine useT (wex).toT ?_ ⟨⟨rfl, rfl, rfl, trivial⟩, trivial⟩); refine stp ?_; try with_reducible exact True.intro
            refine Br.mk (fun hneg => ?_) (fun hneg => ?_) <;> simp only [decide_eq_true_eq, decide_eq_false_iff_not, ne_eq, Decidable.not_not, Bool.not_eq_eq_eq_not, Bool.not_true, Bool.not_false] at hneg
            · obtain ⟨hp1, hp2⟩ := hpc rfl hxc hneg
              refine stp ?_; try with_reducible exact True.intro
              (first | refine .inl ⟨_, _, wpI, ⟨⟨rfl, rfl, rfl, trivial⟩, trivial⟩, ?_⟩ | refine useT (wpI).toT ?_ ⟨⟨rfl, rfl, rfl, trivial⟩, trivial⟩); refine stp ?_; try with_reducible exact True.intro
              (first | refine .inl ⟨_, _, wex, ⟨⟨rfl, rfl, rfl, trivial⟩, trivial⟩, ?_⟩ | refine useT (wex).toT ?_ ⟨⟨rfl, rfl, rfl, trivial⟩, trivial⟩); refine stp ?_; try with_reducible exact True.intro
              refine brF (by simp; omega) ?_
              refine stp ?_; try with_reducible exact True.intro
              (first | refine .inl ⟨_, _, wmI, ⟨⟨rfl, rfl, rfl, trivial⟩, trivial⟩, ?_⟩ | refine useT (wmI).toT ?_ ⟨⟨rfl, rfl, rfl, trivial⟩, trivial⟩); refine stp ?_; try with_reducible exact True.intro
              (first | refine .inl ⟨_, _, wpI, ⟨⟨rfl, rfl, rfl, trivial⟩, trivial⟩, ?_⟩ | refine useT (wpI).toT ?_ ⟨⟨rfl, rfl, rfl, trivial⟩, trivial⟩); refine stp ?_; try with_reducible exact True.intro
              refine brF (by simp; omega) ?_
              refine stp ?_; try with_reducible exact True.intro
              cases jk
              · refine stp ?_; try with_reducible exact True.intro
              · have e5 := hja rfl
                refine stp ?_; try with_reducible exact True.intro
                (first | refine .inl ⟨_, _, wej, ⟨⟨rfl, rfl, rfl, trivial⟩, trivial⟩, ?_⟩ | refine useT (wej).toT ?_ ⟨⟨rfl, rfl, rfl, trivial⟩, trivial⟩); refine stp ?_; try with_reducible exact True.intro
                (first | refine .inl ⟨_, _, wex, ⟨⟨rfl, rfl, rfl, trivial⟩, trivial⟩, ?_⟩ | refine useT (wex).toT ?_ ⟨⟨rfl, rfl, rfl, trivial⟩, trivial⟩); refine stp ?_; try with_reducible exact True.intro
                (first | refine .inl ⟨_, _, wey, ⟨⟨rfl, rfl, rfl, trivial⟩, trivial⟩, ?_⟩ | refine useT (wey).toT ?_ ⟨⟨rfl, rfl, rfl, trivial⟩, trivial⟩); refine stp ?_; try with_reducible exact True.intro
                simp [e5]
            · refine stp ?_; try with_reducible exact True.intro
              cases jk
              · refine stp ?_; try with_reducible exact True.intro
              · have e5 := hja rfl
                refine stp ?_; try with_reducible exact True.intro
                (first | refine .inl ⟨_, _, wej, ⟨⟨rfl, rfl, rfl, trivial⟩, trivial⟩, ?_⟩ | refine useT (wej).toT ?_ ⟨⟨rfl, rfl, rfl, trivial⟩, trivial⟩); refine stp ?_; try with_reducible exact True.intro
                (first | refine .inl ⟨_, _, wex, ⟨⟨rfl, rfl, rfl, trivial⟩, trivial⟩, ?_⟩ | refine useT (wex).toT ?_ ⟨⟨rfl, rfl, rfl, trivial⟩, trivial⟩); refine stp ?_; try with_reducible exact True.intro
                (first | refine .inl ⟨_, _, wey, ⟨⟨rfl, rfl, rfl, trivial⟩, trivial⟩, ?_⟩ | refine useT (wey).toT ?_ ⟨⟨rfl, rfl, rfl, trivial⟩, trivial⟩); refine stp ?_; try with_reducible exact True.intro
                simp [e5]
          · refine stp ?_; try with_reducible exact True.intro
            cases jk
            · refine stp ?_; try with_reducible exact True.intro
            · have e5 := hja rfl
              refine stp ?_; try with_reducible exact True.intro
              (first | refine .inl ⟨_, _, wej, ⟨⟨rfl, rfl, rfl, trivial⟩, trivial⟩, ?_⟩ | refine useT (wej).toT ?_ ⟨⟨rfl, rfl, rfl, trivial⟩, trivial⟩); refine stp ?_; try with_reducible exact True.intro
              (first | refine .inl ⟨_, _, wex, ⟨⟨rfl, rfl, rfl, trivial⟩, trivial⟩, ?_⟩ | refine useT (wex).toT ?_ ⟨⟨rfl, rfl, rfl, trivial⟩, trivial⟩); refine stp ?_; try with_reducible exact True.intro
              (first | refine .inl ⟨_, _, wey, ⟨⟨rfl, rfl, rfl, trivial⟩, trivial⟩, ?_⟩ | refine useT (wey).toT ?_ ⟨⟨rfl, rfl, rfl, trivial⟩, trivial⟩); refine stp ?_; try with_reducible exact True.intro
              simp [e5]
  · refine stp ?_; try with_reducible exact True.intro
    refine ⟨Nat, fun k => k ≤ L.length, fun k => L.length - k, fun k => [(3, .pcell 0 0), (8, .own 1 0 L.length), (9, .own 2 0 L.length), (14, .pcell 3 0), (15, .pcell 4 0), (16, .pcell 5 0), (17, .b jk), (20, .i n), (21, .own 6 0 F.length), (24, .i k)], fun k => [.vars [.i xh, .i xc, .i xb], .arr (.list sqT) L false, .arr (.list sqT) L false, .vars [.i xh, .i xc, .i xb], .vars [.i yh, .i yc, .i yb], .vars [.i j1, .i j2, .i j3], .arr sqT F true], ⟨0, ⟨.frz [], [0, 3, 4, 7, 8, 9, 11], ⟨rfl, rfl, rfl, rfl, rfl, rfl, rfl, rfl, rfl, rfl, trivial⟩, ⟨rfl, rfl, rfl, rfl, rfl, rfl, rfl, trivial⟩, by decide, rfl, rfl, rfl⟩, Nat.zero_le _⟩, fun k hk => ?_⟩
    refine stp ?_; try with_reducible exact True.intro
    refine Br.mk (fun h5 => ?_) (fun h5 => ?_) <;> simp only [decide_eq_true_eq, decide_eq_false_iff_not, ne_eq, Decidable.not_not, Bool.not_eq_eq_eq_not, Bool.not_true, Bool.not_false] at h5
    · obtain ⟨r1, r2, r3⟩ := hrow k (by omega)
      have wjr := JoinBordersI (unq (rdT sqT (rdT (.list sqT) L k) 0)) (unq (rdT sqT (rdT (.list sqT) L k) 1))
      have we1 := EulerS (unq (rdT sqT (rdT (.list sqT) L k) 0))
      have we2 := EulerS (unq (rdT sqT (rdT (.list sqT) L k) 1))
      have er1 := eul_rng (unq (rdT sqT (rdT (.list sqT) L k) 0))
      have er2 := eul_rng (unq (rdT sqT (rdT (.list sqT) L k) 1))
      have r4 : (List.length (rdT (.list sqT) L ((Int.toNat (k : Int) : Nat) : Int)) : Int) = 2 := congrArg (Nat.cast (R := Int)) r1
      rw [r2] at wjr
      generalize eul (unq (rdT sqT (rdT (.list sqT) L k) 0)) = u1 at *
      generalize eul (unq (rdT sqT (rdT (.list sqT) L k) 1)) = u2 at *
      dsimp only [sfV, unq, tolV] at wjr we1 we2
      refine stp ?_; try with_reducible exact True.intro
      refine brF (decide_eq_false fun h => h (congrArg (Nat.cast (R := Int)) r1)) ?_
      refine stp ?_; try with_reducible exact True.intro
      (first | refine .inl ⟨_, _, (sameSurfaces (rdT (.list sqT) L (k : Int)) (rdT (.list sqT) L (k : Int)) (by omega) (by omega)), (by repeat (first | exact trivial | refine ⟨by first | exact rfl | exact trivial | exact ⟨_, rfl, rfl⟩, ?_⟩)), ?_⟩ | refine useT ((sameSurfaces (rdT (.list sqT) L (k : Int)) (rdT (.list sqT) L (k : Int)) (by omega) (by omega))).toT ?_); refine stp ?_; try with_reducible exact True.intro
      refine brF (by simp) ?_
      refine stp ?_; try with_reducible exact True.intro
      refine .inl ⟨_, _, wjr, ⟨⟨rfl, rfl, rfl, trivial⟩, ⟨rfl, rfl, rfl, trivial⟩, trivial⟩, ?_⟩
      refine stp ?_; try with_reducible exact True.intro
      refine brF (by simp) ?_
      refine stp ?_; try with_reducible exact True.intro
      (first | refine .inl ⟨_, _, we1, ⟨⟨rfl, rfl, rfl, trivial⟩, trivial⟩, ?_⟩ | refine useT (we1).toT ?_ ⟨⟨rfl, rfl, rfl, trivial⟩, trivial⟩); refine stp ?_; try with_reducible exact True.intro
      (first | refine .inl ⟨_, _, we2, ⟨⟨rfl, rfl, rfl, trivial⟩, trivial⟩, ?_⟩ | refine useT (we2).toT ?_ ⟨⟨rfl, rfl, rfl, trivial⟩, trivial⟩); refine stp ?_; try with_reducible exact True.intro
      (first | refine .inl ⟨_, _, wex, ⟨⟨rfl, rfl, rfl, trivial⟩, trivial⟩, ?_⟩ | refine useT (wex).toT ?_ ⟨⟨rfl, rfl, rfl, trivial⟩, trivial⟩); refine stp ?_; try with_reducible exact True.intro
      refine brF (by simp; omega) ?_
      refine stp ?_; try with_reducible exact True.intro
      exact ⟨k + 1, ⟨.frz [], [0, 1, 2, 3, 4, 5, 6], ⟨rfl, rfl, rfl, rfl, rfl, rfl, rfl, rfl, rfl, rfl, trivial⟩, ⟨rfl, rfl, rfl, rfl, rfl, rfl, rfl, trivial⟩, by decide, rfl, rfl, rfl⟩, by omega, by first | omega | (dsimp only; omega)⟩
    · refine stp ?_; try with_reducible exact True.intro
      refine ⟨Nat, fun k => k ≤ F.length, fun k => F.length - k, fun k => [(3, .pcell 0 0), (14, .pcell 1 0), (15, .pcell 2 0), (16, .pcell 3 0), (17, .b jk), (20, .i n), (21, .own 4 0 F.length), (27, .i k)], fun k => [.vars [.i xh, .i xc, .i xb], .vars [.i xh, .i xc, .i xb], .vars [.i yh, .i yc, .i yb], .vars [.i j1, .i j2, .i j3], .arr sqT F true], ⟨0, ⟨.frz [], [0, 3, 4, 5, 6], ⟨rfl, rfl, rfl, rfl, rfl, rfl, rfl, rfl, trivial⟩, ⟨rfl, rfl, rfl, rfl, rfl, trivial⟩, by decide, rfl, rfl, rfl⟩, Nat.zero_le _⟩, fun k hk => ?_⟩
      refine stp ?_; try with_reducible exact True.intro
      refine Br.mk (fun h6 => ?_) (fun h6 => ?_) <;> simp only [decide_eq_true_eq, decide_eq_false_iff_not, ne_eq, Decidable.not_not, Bool.not_eq_eq_eq_not, Bool.not_true, Bool.not_false] at h6
      · have r5 := hfr k (by omega)
        have we3 := EulerS (unq (rdT sqT F k))
        rw [r5] at we3
        dsimp only [sfV, unq] at we3
        refine stp ?_; try with_reducible exact True.intro
        refine useT we3.toT ?_ ⟨⟨rfl, rfl, rfl, trivial⟩, trivial⟩
        refine stp ?_; try with_reducible exact True.intro
        refine brF (by simp) ?_
        refine stp ?_; try with_reducible exact True.intro
        exact ⟨k + 1, ⟨.frz [], [0, 1, 2, 3, 4], ⟨rfl, rfl, rfl, rfl, rfl, rfl, rfl, rfl, trivial⟩, ⟨rfl, rfl, rfl, rfl, rfl, trivial⟩, by decide, rfl, rfl, rfl⟩, by omega, by first | omega | (dsimp only; omega)⟩
      · refine stp ?_; try with_reducible exact True.intro
        cases si
        · refine useT wis.toT ?_ ⟨⟨rfl, rfl, rfl, trivial⟩, trivial⟩
          refine stp ?_; try with_reducible exact True.intro
          cases jk
          · refine stp ?_; try with_reducible exact True.intro
          · have e5 := hja rfl
            refine stp ?_; try with_reducible exact True.intro
            (first | refine .inl ⟨_, _, wej, ⟨⟨rfl, rfl, rfl, trivial⟩, trivial⟩, ?_⟩ | refine useT (wej).toT ?_ ⟨⟨rfl, rfl, rfl, trivial⟩, trivial⟩); refine stp ?_; try with_reducible exact True.intro
            (first | refine .inl ⟨_, _, wex, ⟨⟨rfl, rfl, rfl, trivial⟩, trivial⟩, ?_⟩ | refine useT (wex).toT ?_ ⟨⟨rfl, rfl, rfl, trivial⟩, trivial⟩); refine stp ?_; try with_reducible exact True.intro
            (first | refine .inl ⟨_, _, wey, ⟨⟨rfl, rfl, rfl, trivial⟩, trivial⟩, ?_⟩ | refine useT (wey).toT ?_ ⟨⟨rfl, rfl, rfl, trivial⟩, trivial⟩); refine stp ?_; try with_reducible exact True.intro
            simp [e5]
        · refine useT wis.toT ?_ ⟨⟨rfl, rfl, rfl, trivial⟩, trivial⟩
          refine stp ?_; try with_reducible exact True.intro
          refine Br.mk (fun hxc => ?_) (fun hxc => ?_) <;> simp only [decide_eq_true_eq, decide_eq_false_iff_not, ne_eq, Decidable.not_not, Bool.not_eq_eq_eq_not, Bool.not_true, Bool.not_false] at hxc
          · refine stp ?_; try with_reducible exact True.intro
            (first | refine .inl ⟨_, _, wex, ⟨⟨rfl, rfl, rfl, trivial⟩, trivial⟩, ?_⟩ | refine useT (wex).toT ?_ ⟨⟨rfl, rfl, rfl, trivial⟩, trivial⟩); refine stp ?_; try with_reducible exact True.intro
            refine Br.mk (fun hneg => ?_) (fun hneg => ?_) <;> simp only [decide_eq_true_eq, decide_eq_false_iff_not, ne_eq, Decidable.not_not, Bool.not_eq_eq_eq_not, Bool.not_true, Bool.not_false] at hneg
            · obtain ⟨hp1, hp2⟩ := hpc rfl hxc hneg
              refine stp ?_; try with_reducible exact True.intro
              (first | refine .inl ⟨_, _, wpI, ⟨⟨rfl, rfl, rfl, trivial⟩, trivial⟩, ?_⟩ | refine useT (wpI).toT ?_ ⟨⟨rfl, rfl, rfl, trivial⟩, trivial⟩); refine stp ?_; try with_reducible exact True.intro
              (first | refine .inl ⟨_, _, wex, ⟨⟨rfl, rfl, rfl, trivial⟩, trivial⟩, ?_⟩ | refine useT (wex).toT ?_ ⟨⟨rfl, rfl, rfl, trivial⟩, trivial⟩); refine stp ?_; try with_reducible exact True.intro
              refine brF (by simp; omega) ?_
              refine stp ?_; try with_reducible exact True.intro
              (first | refine .inl ⟨_, _, wmI, ⟨⟨rfl, rfl, rfl, trivial⟩, trivial⟩, ?_⟩ | refine useT (wmI).toT ?_ ⟨⟨rfl, rfl, rfl, trivial⟩, trivial⟩); refine stp ?_; try with_reducible exact True.intro
              (first | refine .inl ⟨_, _, wpI, ⟨⟨rfl, rfl, rfl, trivial⟩, trivial⟩, ?_⟩ | refine useT (wpI).toT ?_ ⟨⟨rfl, rfl, rfl, trivial⟩, trivial⟩); refine stp ?_; try with_reducible exact True.intro
              refine brF (by simp; omega) ?_
              refine stp ?_; try with_reducible exact True.intro
              cases jk
              · refine stp ?_; try with_reducible exact True.intro
              · have e5 := hja rfl
                refine stp ?_; try with_reducible exact True.intro
                (first | refine .inl ⟨_, _, wej, ⟨⟨rfl, rfl, rfl, trivial⟩, trivial⟩, ?_⟩ | refine useT (wej).toT ?_ ⟨⟨rfl, rfl, rfl, trivial⟩, trivial⟩); refine stp ?_; try with_reducible exact True.intro
                (first | refine .inl ⟨_, _, wex, ⟨⟨rfl, rfl, rfl, trivial⟩, trivial⟩, ?_⟩ | refine useT (wex).toT ?_ ⟨⟨rfl, rfl, rfl, trivial⟩, trivial⟩); refine stp ?_; try with_reducible exact True.intro
                (first | refine .inl ⟨_, _, wey, ⟨⟨rfl, rfl, rfl, trivial⟩, trivial⟩, ?_⟩ | refine useT (wey).toT ?_ ⟨⟨rfl, rfl, rfl, trivial⟩, trivial⟩); refine stp ?_; try with_reducible exact True.intro
                simp [e5]
            · refine stp ?_; try with_reducible exact True.intro
              cases jk
              · refine stp ?_; try with_reducible exact True.intro
              · have e5 := hja rfl
                refine stp ?_; try with_reducible exact True.intro
                (first | refine .inl ⟨_, _, wej, ⟨⟨rfl, rfl, rfl, trivial⟩, trivial⟩, ?_⟩ | refine useT (wej).toT ?_ ⟨⟨rfl, rfl, rfl, trivial⟩, trivial⟩); refine stp ?_; try with_reducible exact True.intro
                (first | refine .inl ⟨_, _, wex, ⟨⟨rfl, rfl, rfl, trivial⟩, trivial⟩, ?_⟩ | refine useT (wex).toT ?_ ⟨⟨rfl, rfl, rfl, trivial⟩, trivial⟩); refine stp ?_; try with_reducible exact True.intro
                (first | refine .inl ⟨_, _, wey, ⟨⟨rfl, rfl, rfl, trivial⟩, trivial⟩, ?_⟩ | refine useT (wey).toT ?_ ⟨⟨rfl, rfl, rfl, trivial⟩, trivial⟩); refine stp ?_; try with_reducible exact True.intro
                simp [e5]
          · refine stp ?_; try with_reducible exact True.intro
            cases jk
            · refine stp ?_; try with_reducible exact True.intro
            · have e5 := hja rfl
              refine stp ?_; try with_reducible exact True.intro
              (first | refine .inl ⟨_, _, wej, ⟨⟨rfl, rfl, rfl, trivial⟩, trivial⟩, ?_⟩ | refine useT (wej).toT ?_ ⟨⟨rfl, rfl, rfl, trivial⟩, trivial⟩); refine stp ?_; try with_reducible exact True.intro
              (first | refine .inl ⟨_, _, wex, ⟨⟨rfl, rfl, rfl, trivial⟩, trivial⟩, ?_⟩ | refine useT (wex).toT ?_ ⟨⟨rfl, rfl, rfl, trivial⟩, trivial⟩); refine stp ?_; try with_reducible exact True.intro
              (first | refine .inl ⟨_, _, wey, ⟨⟨rfl, rfl, rfl, trivial⟩, trivial⟩, ?_⟩ | refine useT (wey).toT ?_ ⟨⟨rfl, rfl, rfl, trivial⟩, trivial⟩); refine stp ?_; try with_reducible exact True.intro
              simp [e5]
end Go.Proofs.YtaoepnmhflmhhaaTv
end
section
open Go Go.Proofs.YtaoepnmhflmhhaaVe Go.Proofs.YtaoepnmhflmhhaaTv Go.Proofs
namespace Go.Proofs.YtaoepnmhflmhhaaTv
set_option maxRecDepth 8000
set_option maxHeartbeats 2000000
theorem FnCutsB (code : List Int) (hc2 : (code.length : Int) ≤ 1048576) (hP : isP (d21 code (s0 code)).1 = true) (hN : ¬ (-10 ≤ bl code 15 (s0 code) - 11 ∧ bl code 15 (s0 code) - 11 ≤ 2)) : ConS Try.prog 7 [.val (.list (.int .u8)) code] (.b true) := by
  refine conS_of hmix hTab Try.func7 rfl rfl (by kernel_rfl) (by show 1 ≤ Try.f7.ntmps; decide) rfl ?_
  refine stp ?_; try with_reducible exact True.intro
  refine useT ((bigFC code (by omega)).toT) ?_; try with_reducible exact True.intro
  rw [decide_eq_false (show ¬ (code.length : Int) > 1048576 by omega)]
  have wd := DrawCutAround code hc2
  have wj := DrawJoinBorders code hc2
  have we := DrawSurfacesWith code hc2
  have rx := d21_rng code (s0 code)
  have ry := d21_rng code (d21 code (s0 code)).2
  have rn := bl_rng code (show (1 : Int) ≤ 15 by decide) (s0 code)
  generalize (d21 code (s0 code)).1 = x at *
  generalize (d21 code (d21 code (s0 code)).2).1 = y at *
  generalize hn : bl code 15 (s0 code) - 11 = n at *
  replace rn : -11 ≤ n ∧ n ≤ 3 := by omega
  clear hn
  have wcI := CutAroundI x
  have wcS := CutAroundS x
  have wgI := GlueBordersI x
  have wgS := GlueBordersS x
  have wjI := JoinBordersI x y
  have wjS := JoinBordersS x y
  have wlI := DividingCutsI x hP
  have wlS := DividingCutsS x hP
  have wsI := SurfacesWithN n hN
  have wsS := SurfacesWithS n
  rw [if_neg hN] at wsS
  have wmI := MostCurvesI x
  have wmS := MostCurvesS x
  have wpI := CountPiecesI x
  have wpS := CountPiecesS x
  have wex := EulerS x
  have wey := EulerS y
  have hcg := @cut_glue x
  have hja := @join_adds x y
  have wgc := GlueBordersI (cutM x).1
  have wec := EulerS (cutM x).1
  have wej := EulerS (joiM x y).1
  have wis := IsSurfaceS x
  have hpc := @pieces x
  generalize isS x = si at *
  have ex := eul_rng x
  have ey := eul_rng y
  have ec := eul_rng (cutM x).1
  have ej := eul_rng (joiM x y).1
  have px := pie_rng x
  have mx := mos_rng x
  have hrow := @d1_rows x hP
  have hdl := d1_len x (x.1.toNat + 1)
  have hP' := hP
  generalize eul x = e1 at *
  generalize eul y = e2 at *
  generalize eul (cutM x).1 = e3 at *
  generalize eul (joiM x y).1 = e4 at *
  generalize pieM x = p1 at *
  generalize mosM x = m1 at *
  generalize hgc : gluM (cutM x).1 = gc at *
  generalize hcx : cutM x = cx at *
  generalize hgx : gluM x = gx at *
  generalize hjx : joiM x y = jx at *
  obtain ⟨⟨c1, c2, c3⟩, ck⟩ := cx
  obtain ⟨⟨g1, g2, g3⟩, gk⟩ := gx
  obtain ⟨⟨j1, j2, j3⟩, jk⟩ := jx
  obtain ⟨⟨b1, b2, b3⟩, bk⟩ := gc
  obtain ⟨xh, xc, xb⟩ := x
  obtain ⟨yh, yc, yb⟩ := y
  dsimp only [tolV, sfV] at *
  generalize d1 (xh, xc, xb) (xh.toNat + 1) = L at *
  replace hdl : (L.length : Int) ≤ 441 := by
    have := isP_rng hP
    have h2 : (xb.toNat + 1) * (xh.toNat + 1) ≤ 21 * 21 := Nat.mul_le_mul (by dsimp only at this; omega) (by dsimp only at this; omega)
    omega
  refine stp ?_; try with_reducible exact True.intro
  refine useT (wd) ?_; try with_reducible exact True.intro
  refine useT wcI.toT ?_ ⟨⟨rfl, rfl, rfl, trivial⟩, trivial⟩
  refine stp ?_; try with_reducible exact True.intro
  refine useT wcS.toT ?_ ⟨⟨rfl, rfl, rfl, trivial⟩, trivial⟩
  refine stp ?_; try with_reducible exact True.intro
  refine useT wlI ?_ ⟨⟨rfl, rfl, rfl, trivial⟩, trivial⟩
  refine stp ?_; try with_reducible exact True.intro
  refine useT wlS ?_ ⟨⟨rfl, rfl, rfl, trivial⟩, trivial⟩
  refine stp ?_; try with_reducible exact True.intro
  refine useT wgI.toT ?_ ⟨⟨rfl, rfl, rfl, trivial⟩, trivial⟩
  refine stp ?_; try with_reducible exact True.intro
  refine useT wgS.toT ?_ ⟨⟨rfl, rfl, rfl, trivial⟩, trivial⟩
  refine stp ?_; try with_reducible exact True.intro
  refine useT (wj) ?_; try with_reducible exact True.intro
  refine useT wjI.toT ?_ ⟨⟨rfl, rfl, rfl, trivial⟩, ⟨rfl, rfl, rfl, trivial⟩, trivial⟩
  refine stp ?_; try with_reducible exact True.intro
  refine useT wjS.toT ?_ ⟨⟨rfl, rfl, rfl, trivial⟩, ⟨rfl, rfl, rfl, trivial⟩, trivial⟩
  refine stp ?_; try with_reducible exact True.intro
  refine useT (we) ?_; try with_reducible exact True.intro
  refine useT (wsI) ?_; try with_reducible exact True.intro
  repeat (refine brF (by simp) ?_; refine stp ?_; try with_reducible exact True.intro)
  refine .inr ⟨_, _, _, wsS, by repeat (first | exact trivial | refine ⟨by first | exact rfl | exact trivial | exact ⟨_, rfl, rfl⟩ | exact ⟨_, _, rfl, by first | (simp; done) | (simp; omega), by first | (simp; done) | (simp [List.take_of_length_le]; done) | (rw [List.drop_zero]; exact List.take_of_length_le (by first | omega | (simp; omega))) | (simp [List.take_of_length_le]; omega)⟩ | exact ⟨_, rfl, by first | (simp; done) | (simp; omega), by first | (simp; done) | (simp [List.take_of_length_le]; done) | (rw [List.drop_zero]; exact List.take_of_length_le (by first | omega | (simp; omega))) | (simp [List.take_of_length_le]; omega)⟩, ?_⟩), rfl, rfl, by first | exact ⟨rfl, trivial⟩ | decide | (simp [okOs, okO]; done) | (simp [okOs, okO, okWs, okW, most]; done) | (simp [okOs, okO, okWs, okW, most]; omega), ?_⟩; refine stp ?_; try with_reducible exact True.intro
  refine useT ((sameSurfaces [] [] (by simp) (by simp)).toT) ?_; try with_reducible exact True.intro
  repeat (refine brF (by simp) ?_; refine stp ?_; try with_reducible exact True.intro)
  (first | refine .inl ⟨_, _, wmI, ⟨⟨rfl, rfl, rfl, trivial⟩, trivial⟩, ?_⟩ | refine useT (wmI).toT ?_ ⟨⟨rfl, rfl, rfl, trivial⟩, trivial⟩); refine stp ?_; try with_reducible exact True.intro
  (first | refine .inl ⟨_, _, wmS, ⟨⟨rfl, rfl, rfl, trivial⟩, trivial⟩, ?_⟩ | refine useT (wmS).toT ?_ ⟨⟨rfl, rfl, rfl, trivial⟩, trivial⟩); refine stp ?_; try with_reducible exact True.intro
  refine brF (by simp) ?_
  refine stp ?_; try with_reducible exact True.intro
  (first | refine .inl ⟨_, _, wpI, ⟨⟨rfl, rfl, rfl, trivial⟩, trivial⟩, ?_⟩ | refine useT (wpI).toT ?_ ⟨⟨rfl, rfl, rfl, trivial⟩, trivial⟩); refine stp ?_; try with_reducible exact True.intro
  (first | refine .inl ⟨_, _, wpS, ⟨⟨rfl, rfl, rfl, trivial⟩, trivial⟩, ?_⟩ | refine useT (wpS).toT ?_ ⟨⟨rfl, rfl, rfl, trivial⟩, trivial⟩); refine stp ?_; try with_reducible exact True.intro
  refine brF (by simp) ?_
  refine stp ?_; try with_reducible exact True.intro
  refine Br.mk (fun hck => ?_) (fun hck => ?_)
  · obtain ⟨he, hb⟩ := hcg hck
    simp only [Prod.mk.injEq] at hb
    obtain ⟨⟨hb1, hb2, hb3⟩, hbk⟩ := hb
    replace hb1 := hb1.symm; replace hb2 := hb2.symm; replace hb3 := hb3.symm; replace he := he.symm
    subst hb1 hb2 hb3 hbk he
    refine stp ?_; try with_reducible exact True.intro
    refine useT wgc.toT ?_ ⟨⟨rfl, rfl, rfl, trivial⟩, trivial⟩
    refine stp ?_; try with_reducible exact True.intro
    (first | refine .inl ⟨_, _, wec, ⟨⟨rfl, rfl, rfl, trivial⟩, trivial⟩, ?_⟩ | refine useT (wec).toT ?_ ⟨⟨rfl, rfl, rfl, trivial⟩, trivial⟩); refine stp ?_; try with_reducible exact True.intro
    (first | refine .inl ⟨_, _, wex, ⟨⟨rfl, rfl, rfl, trivial⟩, trivial⟩, ?_⟩ | refine useT (wex).toT ?_ ⟨⟨rfl, rfl, rfl, trivial⟩, trivial⟩); refine stp ?_; try with_reducible exact True.intro
    refine brF (by simp) ?_
    refine stp ?_; try with_reducible exact True.intro
    refine brF (by simp) ?_
    refine stp ?_; try with_reducible exact True.intro
    refine ⟨Nat, fun k => k ≤ L.length, fun k => L.length - k, fun k => [(3, .pcell 0 0), (8, .own 1 0 L.length), (9, .own 2 0 L.length), (14, .pcell 3 0), (15, .pcell 4 0), (16, .pcell 5 0), (17, .b jk), (20, .i n), (21, .nil .unit), (24, .i k)], fun k => [.vars [.i xh, .i xc, .i xb], .arr (.list sqT) L false, .arr (.list sqT) L false, .vars [.i xh, .i xc, .i xb], .vars [.i yh, .i yc, .i yb], .vars [.i j1, .i j2, .i j3]], ⟨0, ⟨.frz [], [0, 3, 4, 7, 8, 9], ⟨rfl, rfl, rfl, rfl, rfl, rfl, rfl, rfl, rfl, rfl, trivial⟩, ⟨rfl, rfl, rfl, rfl, rfl, rfl, trivial⟩, by decide, rfl, rfl, rfl⟩, Nat.zero_le _⟩, fun k hk => ?_⟩
    refine stp ?_; try with_reducible exact True.intro
    refine Br.mk (fun h5 => ?_) (fun h5 => ?_) <;> simp only [decide_eq_true_eq, decide_eq_false_iff_not, ne_eq, Decidable.not_not, Bool.not_eq_eq_eq_not, Bool.not_true, Bool.not_false] at h5
    · obtain ⟨r1, r2, r3⟩ := hrow k (by omega)
      have wjr := JoinBordersI (unq (rdT sqT (rdT (.list sqT) L k) 0)) (unq (rdT sqT (rdT (.list sqT) L k) 1))
      have we1 := EulerS (unq (rdT sqT (rdT (.list sqT) L k) 0))
      have we2 := EulerS (unq (rdT sqT (rdT (.list sqT) L k) 1))
      have er1 := eul_rng (unq (rdT sqT (rdT (.list sqT) L k) 0))
      have er2 := eul_rng (unq (rdT sqT (rdT (.list sqT) L k) 1))
      have r4 : (List.length (rdT (.list sqT) L ((Int.toNat (k : Int) : Nat) : Int)) : Int) = 2 := congrArg (Nat.cast (R := Int)) r1
      rw [r2] at wjr
      generalize eul (unq (rdT sqT (rdT (.list sqT) L k) 0)) = u1 at *
      generalize eul (unq (rdT sqT (rdT (.list sqT) L k) 1)) = u2 at *
      dsimp only [sfV, unq, tolV] at wjr we1 we2
      refine stp ?_; try with_reducible exact True.intro
      refine brF (decide_eq_false fun h => h (congrArg (Nat.cast (R := Int)) r1)) ?_
      refine stp ?_; try with_reducible exact True.intro
      (first | refine .inl ⟨_, _, (sameSurfaces (rdT (.list sqT) L (k : Int)) (rdT (.list sqT) L (k : Int)) (by omega) (by omega)), (by repeat (first | exact trivial | refine ⟨by first | exact rfl | exact trivial | exact ⟨_, rfl, rfl⟩, ?_⟩)), ?_⟩ | refine useT ((sameSurfaces (rdT (.list sqT) L (k : Int)) (rdT (.list sqT) L (k : Int)) (by omega) (by omega))).toT ?_); refine stp ?_; try with_reducible exact True.intro
      refine brF (by simp) ?_
      refine stp ?_; try with_reducible exact True.intro
      refine .inl ⟨_, _, wjr, ⟨⟨rfl, rfl, rfl, trivial⟩, ⟨rfl, rfl, rfl, trivial⟩, trivial⟩, ?_⟩
      refine stp ?_; try with_reducible exact True.intro
      refine brF (by simp) ?_
      refine stp ?_; try with_reducible exact True.intro
      (first | refine .inl ⟨_, _, we1, ⟨⟨rfl, rfl, rfl, trivial⟩, trivial⟩, ?_⟩ | refine useT (we1).toT ?_ ⟨⟨rfl, rfl, rfl, trivial⟩, trivial⟩); refine stp ?_; try with_reducible exact True.intro
      (first | refine .inl ⟨_, _, we2, ⟨⟨rfl, rfl, rfl, trivial⟩, trivial⟩, ?_⟩ | refine useT (we2).toT ?_ ⟨⟨rfl, rfl, rfl, trivial⟩, trivial⟩); refine stp ?_; try with_reducible exact True.intro
      (first | refine .inl ⟨_, _, wex, ⟨⟨rfl, rfl, rfl, trivial⟩, trivial⟩, ?_⟩ | refine useT (wex).toT ?_ ⟨⟨rfl, rfl, rfl, trivial⟩, trivial⟩); refine stp ?_; try with_reducible exact True.intro
      refine brF (by simp; omega) ?_
      refine stp ?_; try with_reducible exact True.intro
      exact ⟨k + 1, ⟨.frz [], [0, 1, 2, 3, 4, 5], ⟨rfl, rfl, rfl, rfl, rfl, rfl, rfl, rfl, rfl, rfl, trivial⟩, ⟨rfl, rfl, rfl, rfl, rfl, rfl, trivial⟩, by decide, rfl, rfl, rfl⟩, by omega, by first | omega | (dsimp only; omega)⟩
    · refine stp ?_; try with_reducible exact True.intro
      refine ⟨Nat, fun k => k = 0, fun k => 1 - k, fun k => [(3, .pcell 0 0), (14, .pcell 1 0), (15, .pcell 2 0), (16, .pcell 3 0), (17, .b jk), (20, .i n), (21, .nil .unit), (27, .i 0)], fun k => [.vars [.i xh, .i xc, .i xb], .vars [.i xh, .i xc, .i xb], .vars [.i yh, .i yc, .i yb], .vars [.i j1, .i j2, .i j3]], ⟨0, ⟨.frz [], [0, 3, 4, 5], ⟨rfl, rfl, rfl, rfl, rfl, rfl, rfl, rfl, trivial⟩, ⟨rfl, rfl, rfl, rfl, trivial⟩, by decide, rfl, rfl, rfl⟩, rfl⟩, fun k hk => ?_⟩
      refine stp ?_; try with_reducible exact True.intro
      · cases si
        · refine useT wis.toT ?_ ⟨⟨rfl, rfl, rfl, trivial⟩, trivial⟩
          refine stp ?_; try with_reducible exact True.intro
          cases jk
          · refine stp ?_; try with_reducible exact True.intro
          · have e5 := hja rfl
            refine stp ?_; try with_reducible exact True.intro
            (first | refine .inl ⟨_, _, wej, ⟨⟨rfl, rfl, rfl, trivial⟩, trivial⟩, ?_⟩ | refine useT (wej).toT ?_ ⟨⟨rfl, rfl, rfl, trivial⟩, trivial⟩); refine stp ?_; try with_reducible exact True.intro
            (first | refine .inl ⟨_, _, wex, ⟨⟨rfl, rfl, rfl, trivial⟩, trivial⟩, ?_⟩ | refine useT (wex).toT ?_ ⟨⟨rfl, rfl, rfl, trivial⟩, trivial⟩); refine stp ?_; try with_reducible exact True.intro
            (first | refine .inl ⟨_, _, wey, ⟨⟨rfl, rfl, rfl, trivial⟩, trivial⟩, ?_⟩ | refine useT (wey).toT ?_ ⟨⟨rfl, rfl, rfl, trivial⟩, trivial⟩); refine stp ?_; try with_reducible exact True.intro
            simp [e5]
        · refine useT wis.toT ?_ ⟨⟨rfl, rfl, rfl, trivial⟩, trivial⟩
          refine stp ?_; try with_reducible exact True.intro
          refine Br.mk (fun hxc => ?_) (fun hxc => ?_) <;> simp only [decide_eq_true_eq, decide_eq_false_iff_not, ne_eq, Decidable.not_not, Bool.not_eq_eq_eq_not, Bool.not_true, Bool.not_false] at hxc
          · refine stp ?_; try with_reducible exact True.intro
            (first | refine .inl ⟨_, _, wex, ⟨⟨rfl, rfl, rfl, trivial⟩, trivial⟩, ?_⟩ | refine useT (wex).toT ?_ ⟨⟨rfl, rfl, rfl, trivial⟩, trivial⟩); refine stp ?_; try with_reducible exact True.intro
            refine Br.mk (fun hneg => ?_) (fun hneg => ?_) <;> simp only [decide_eq_true_eq, decide_eq_false_iff_not, ne_eq, Decidable.not_not, Bool.not_eq_eq_eq_not, Bool.not_true, Bool.not_false] at hneg
            · obtain ⟨hp1, hp2⟩ := hpc rfl hxc hneg
              refine stp ?_; try with_reducible exact True.intro
              (first | refine .inl ⟨_, _, wpI, ⟨⟨rfl, rfl, rfl, trivial⟩, trivial⟩, ?_⟩ | refine useT (wpI).toT ?_ ⟨⟨rfl, rfl, rfl, trivial⟩, trivial⟩); refine stp ?_; try with_reducible exact True.intro
              (first | refine .inl ⟨_, _, wex, ⟨⟨rfl, rfl, rfl, trivial⟩, trivial⟩, ?_⟩ | refine useT (wex).toT ?_ ⟨⟨rfl, rfl, rfl, trivial⟩, trivial⟩); refine stp ?_; try with_reducible exact True.intro
              refine brF (by simp; omega) ?_
              refine stp ?_; try with_reducible exact True.intro
              (first | refine .inl ⟨_, _, wmI, ⟨⟨rfl, rfl, rfl, trivial⟩, trivial⟩, ?_⟩ | refine useT (wmI).toT ?_ ⟨⟨rfl, rfl, rfl, trivial⟩, trivial⟩); refine stp ?_; try with_reducible exact True.intro
              (first | refine .inl ⟨_, _, wpI, ⟨⟨rfl, rfl, rfl, trivial⟩, trivial⟩, ?_⟩ | refine useT (wpI).toT ?_ ⟨⟨rfl, rfl, rfl, trivial⟩, trivial⟩); refine stp ?_; try with_reducible exact True.intro
              refine brF (by simp; omega) ?_
              refine stp ?_; try with_reducible exact True.intro
              cases jk
              · refine stp ?_; try with_reducible exact True.intro
              · have e5 := hja rfl
                refine stp ?_; try with_reducible exact True.intro
                (first | refine .inl ⟨_, _, wej, ⟨⟨rfl, rfl, rfl, trivial⟩, trivial⟩, ?_⟩ | refine useT (wej).toT ?_ ⟨⟨rfl, rfl, rfl, trivial⟩, trivial⟩); refine stp ?_; try with_reducible exact True.intro
                (first | refine .inl ⟨_, _, wex, ⟨⟨rfl, rfl, rfl, trivial⟩, trivial⟩, ?_⟩ | refine useT (wex).toT ?_ ⟨⟨rfl, rfl, rfl, trivial⟩, trivial⟩); refine stp ?_; try with_reducible exact True.intro
                (first | refine .inl ⟨_, _, wey, ⟨⟨rfl, rfl, rfl, trivial⟩, trivial⟩, ?_⟩ | refine useT (wey).toT ?_ ⟨⟨rfl, rfl, rfl, trivial⟩, trivial⟩); refine stp ?_; try with_reducible exact True.intro
                simp [e5]
            · refine stp ?_; try with_reducible exact True.intro
              cases jk
              · refine stp ?_; try with_reducible exact True.intro
              · have e5 := hja rfl
                refine stp ?_; try with_reducible exact True.intro
                (first | refine .inl ⟨_, _, wej, ⟨⟨rfl, rfl, rfl, trivial⟩, trivial⟩, ?_⟩ | refine useT (wej).toT ?_ ⟨⟨rfl, rfl, rfl, trivial⟩, trivial⟩); refine stp ?_; try with_reducible exact True.intro
                (first | refine .inl ⟨_, _, wex, ⟨⟨rfl, rfl, rfl, trivial⟩, trivial⟩, ?_⟩ | refine useT (wex).toT ?_ ⟨⟨rfl, rfl, rfl, trivial⟩, trivial⟩); refine stp ?_; try with_reducible exact True.intro
                (first | refine .inl ⟨_, _, wey, ⟨⟨rfl, rfl, rfl, trivial⟩, trivial⟩, ?_⟩ | refine useT (wey).toT ?_ ⟨⟨rfl, rfl, rfl, trivial⟩, trivial⟩); refine stp ?_; try with_reducible exact True.intro
                simp [e5]
          · refine stp ?_; try with_reducible exact True.intro
            cases jk
            · refine stp ?_; try with_reducible exact True.intro
            · have e5 := hja rfl
              refine stp ?_; try with_reducible exact True.intro
              (first | refine .inl ⟨_, _, wej, ⟨⟨rfl, rfl, rfl, trivial⟩, trivial⟩, ?_⟩ | refine useT (wej).toT ?_ ⟨⟨rfl, rfl, rfl, trivial⟩, trivial⟩); refine stp ?_; try with_reducible exact True.intro
              (first | refine .inl ⟨_, _, wex, ⟨⟨rfl, rfl, rfl, trivial⟩, trivial⟩, ?_⟩ | refine useT (wex).toT ?_ ⟨⟨rfl, rfl, rfl, trivial⟩, trivial⟩); refine stp ?_; try with_reducible exact True.intro
              (first | refine .inl ⟨_, _, wey, ⟨⟨rfl, rfl, rfl, trivial⟩, trivial⟩, ?_⟩ | refine useT (wey).toT ?_ ⟨⟨rfl, rfl, rfl, trivial⟩, trivial⟩); refine stp ?_; try with_reducible exact True.intro
              simp [e5]
  · refine stp ?_; try with_reducible exact True.intro
    refine ⟨Nat, fun k => k ≤ L.length, fun k => L.length - k, fun k => [(3, .pcell 0 0), (8, .own 1 0 L.length), (9, .own 2 0 L.length), (14, .pcell 3 0), (15, .pcell 4 0), (16, .pcell 5 0), (17, .b jk), (20, .i n), (21, .nil .unit), (24, .i k)], fun k => [.vars [.i xh, .i xc, .i xb], .arr (.list sqT) L false, .arr (.list sqT) L false, .vars [.i xh, .i xc, .i xb], .vars [.i yh, .i yc, .i yb], .vars [.i j1, .i j2, .i j3]], ⟨0, ⟨.frz [], [0, 3, 4, 7, 8, 9], ⟨rfl, rfl, rfl, rfl, rfl, rfl, rfl, rfl, rfl, rfl, trivial⟩, ⟨rfl, rfl, rfl, rfl, rfl, rfl, trivial⟩, by decide, rfl, rfl, rfl⟩, Nat.zero_le _⟩, fun k hk => ?_⟩
    refine stp ?_; try with_reducible exact True.intro
    refine Br.mk (fun h5 => ?_) (fun h5 => ?_) <;> simp only [decide_eq_true_eq, decide_eq_false_iff_not, ne_eq, Decidable.not_not, Bool.not_eq_eq_eq_not, Bool.not_true, Bool.not_false] at h5
    · obtain ⟨r1, r2, r3⟩ := hrow k (by omega)
      have wjr := JoinBordersI (unq (rdT sqT (rdT (.list sqT) L k) 0)) (unq (rdT sqT (rdT (.list sqT) L k) 1))
      have we1 := EulerS (unq (rdT sqT (rdT (.list sqT) L k) 0))
      have we2 := EulerS (unq (rdT sqT (rdT (.list sqT) L k) 1))
      have er1 := eul_rng (unq (rdT sqT (rdT (.list sqT) L k) 0))
      have er2 := eul_rng (unq (rdT sqT (rdT (.list sqT) L k) 1))
      have r4 : (List.length (rdT (.list sqT) L ((Int.toNat (k : Int) : Nat) : Int)) : Int) = 2 := congrArg (Nat.cast (R := Int)) r1
      rw [r2] at wjr
      generalize eul (unq (rdT sqT (rdT (.list sqT) L k) 0)) = u1 at *
      generalize eul (unq (rdT sqT (rdT (.list sqT) L k) 1)) = u2 at *
      dsimp only [sfV, unq, tolV] at wjr we1 we2
      refine stp ?_; try with_reducible exact True.intro
      refine brF (decide_eq_false fun h => h (congrArg (Nat.cast (R := Int)) r1)) ?_
      refine stp ?_; try with_reducible exact True.intro
      (first | refine .inl ⟨_, _, (sameSurfaces (rdT (.list sqT) L (k : Int)) (rdT (.list sqT) L (k : Int)) (by omega) (by omega)), (by repeat (first | exact trivial | refine ⟨by first | exact rfl | exact trivial | exact ⟨_, rfl, rfl⟩, ?_⟩)), ?_⟩ | refine useT ((sameSurfaces (rdT (.list sqT) L (k : Int)) (rdT (.list sqT) L (k : Int)) (by omega) (by omega))).toT ?_); refine stp ?_; try with_reducible exact True.intro
      refine brF (by simp) ?_
      refine stp ?_; try with_reducible exact True.intro
      refine .inl ⟨_, _, wjr, ⟨⟨rfl, rfl, rfl, trivial⟩, ⟨rfl, rfl, rfl, trivial⟩, trivial⟩, ?_⟩
      refine stp ?_; try with_reducible exact True.intro
      refine brF (by simp) ?_
      refine stp ?_; try with_reducible exact True.intro
      (first | refine .inl ⟨_, _, we1, ⟨⟨rfl, rfl, rfl, trivial⟩, trivial⟩, ?_⟩ | refine useT (we1).toT ?_ ⟨⟨rfl, rfl, rfl, trivial⟩, trivial⟩); refine stp ?_; try with_reducible exact True.intro
      (first | refine .inl ⟨_, _, we2, ⟨⟨rfl, rfl, rfl, trivial⟩, trivial⟩, ?_⟩ | refine useT (we2).toT ?_ ⟨⟨rfl, rfl, rfl, trivial⟩, trivial⟩); refine stp ?_; try with_reducible exact True.intro
      (first | refine .inl ⟨_, _, wex, ⟨⟨rfl, rfl, rfl, trivial⟩, trivial⟩, ?_⟩ | refine useT (wex).toT ?_ ⟨⟨rfl, rfl, rfl, trivial⟩, trivial⟩); refine stp ?_; try with_reducible exact True.intro
      refine brF (by simp; omega) ?_
      refine stp ?_; try with_reducible exact True.intro
      exact ⟨k + 1, ⟨.frz [], [0, 1, 2, 3, 4, 5], ⟨rfl, rfl, rfl, rfl, rfl, rfl, rfl, rfl, rfl, rfl, trivial⟩, ⟨rfl, rfl, rfl, rfl, rfl, rfl, trivial⟩, by decide, rfl, rfl, rfl⟩, by omega, by first | omega | (dsimp only; omega)⟩
    · refine stp ?_; try with_reducible exact True.intro
      refine ⟨Nat, fun k => k = 0, fun k => 1 - k, fun k => [(3, .pcell 0 0), (14, .pcell 1 0), (15, .pcell 2 0), (16, .pcell 3 0), (17, .b jk), (20, .i n), (21, .nil .unit), (27, .i 0)], fun k => [.vars [.i xh, .i xc, .i xb], .vars [.i xh, .i xc, .i xb], .vars [.i yh, .i yc, .i yb], .vars [.i j1, .i j2, .i j3]], ⟨0, ⟨.frz [], [0, 3, 4, 5], ⟨rfl, rfl, rfl, rfl, rfl, rfl, rfl, rfl, trivial⟩, ⟨rfl, rfl, rfl, rfl, trivial⟩, by decide, rfl, rfl, rfl⟩, rfl⟩, fun k hk => ?_⟩
      refine stp ?_; try with_reducible exact True.intro
      · cases si
        · refine useT wis.toT ?_ ⟨⟨rfl, rfl, rfl, trivial⟩, trivial⟩
          refine stp ?_; try with_reducible exact True.intro
          cases jk
          · refine stp ?_; try with_reducible exact True.intro
          · have e5 := hja rfl
            refine stp ?_; try with_reducible exact True.intro
            (first | refine .inl ⟨_, _, wej, ⟨⟨rfl, rfl, rfl, trivial⟩, trivial⟩, ?_⟩ | refine useT (wej).toT ?_ ⟨⟨rfl, rfl, rfl, trivial⟩, trivial⟩); refine stp ?_; try with_reducible exact True.intro
            (first | refine .inl ⟨_, _, wex, ⟨⟨rfl, rfl, rfl, trivial⟩, trivial⟩, ?_⟩ | refine useT (wex).toT ?_ ⟨⟨rfl, rfl, rfl, trivial⟩, trivial⟩); refine stp ?_; try with_reducible exact True.intro
            (first | refine .inl ⟨_, _, wey, ⟨⟨rfl, rfl, rfl, trivial⟩, trivial⟩, ?_⟩ | refine useT (wey).toT ?_ ⟨⟨rfl, rfl, rfl, trivial⟩, trivial⟩); refine stp ?_; try with_reducible exact True.intro
            simp [e5]
        · refine useT wis.toT ?_ ⟨⟨rfl, rfl, rfl, trivial⟩, trivial⟩
          refine stp ?_; try with_reducible exact True.intro
          refine Br.mk (fun hxc => ?_) (fun hxc => ?_) <;> simp only [decide_eq_true_eq, decide_eq_false_iff_not, ne_eq, Decidable.not_not, Bool.not_eq_eq_eq_not, Bool.not_true, Bool.not_false] at hxc
          · refine stp ?_; try with_reducible exact True.intro
            (first | refine .inl ⟨_, _, wex, ⟨⟨rfl, rfl, rfl, trivial⟩, trivial⟩, ?_⟩ | refine useT (wex).toT ?_ ⟨⟨rfl, rfl, rfl, trivial⟩, trivial⟩); refine stp ?_; try with_reducible exact True.intro
            refine Br.mk (fun hneg => ?_) (fun hneg => ?_) <;> simp only [decide_eq_true_eq, decide_eq_false_iff_not, ne_eq, Decidable.not_not, Bool.not_eq_eq_eq_not, Bool.not_true, Bool.not_false] at hneg
            · obtain ⟨hp1, hp2⟩ := hpc rfl hxc hneg
              refine stp ?_; try with_reducible exact True.intro
              (first | refine .inl ⟨_, _, wpI, ⟨⟨rfl, rfl, rfl, trivial⟩, trivial⟩, ?_⟩ | refine useT (wpI).toT ?_ ⟨⟨rfl, rfl, rfl, trivial⟩, trivial⟩); refine stp ?_; try with_reducible exact True.intro
              (first | refine .inl ⟨_, _, wex, ⟨⟨rfl, rfl, rfl, trivial⟩, trivial⟩, ?_⟩ | refine useT (wex).toT ?_ ⟨⟨rfl, rfl, rfl, trivial⟩, trivial⟩); refine stp ?_; try with_reducible exact True.intro
              refine brF (by simp; omega) ?_
              refine stp ?_; try with_reducible exact True.intro
              (first | refine .inl ⟨_, _, wmI, ⟨⟨rfl, rfl, rfl, trivial⟩, trivial⟩, ?_⟩ | refine useT (wmI).toT ?_ ⟨⟨rfl, rfl, rfl, trivial⟩, trivial⟩); refine stp ?_; try with_reducible exact True.intro
              (first | refine .inl ⟨_, _, wpI, ⟨⟨rfl, rfl, rfl, trivial⟩, trivial⟩, ?_⟩ | refine useT (wpI).toT ?_ ⟨⟨rfl, rfl, rfl, trivial⟩, trivial⟩); refine stp ?_; try with_reducible exact True.intro
              refine brF (by simp; omega) ?_
              refine stp ?_; try with_reducible exact True.intro
              cases jk
              · refine stp ?_; try with_reducible exact True.intro
              · have e5 := hja rfl
                refine stp ?_; try with_reducible exact True.intro
                (first | refine .inl ⟨_, _, wej, ⟨⟨rfl, rfl, rfl, trivial⟩, trivial⟩, ?_⟩ | refine useT (wej).toT ?_ ⟨⟨rfl, rfl, rfl, trivial⟩, trivial⟩); refine stp ?_; try with_reducible exact True.intro
                (first | refine .inl ⟨_, _, wex, ⟨⟨rfl, rfl, rfl, trivial⟩, trivial⟩, ?_⟩ | refine useT (wex).toT ?_ ⟨⟨rfl, rfl, rfl, trivial⟩, trivial⟩); refine stp ?_; try with_reducible exact True.intro
                (first | refine .inl ⟨_, _, wey, ⟨⟨rfl, rfl, rfl, trivial⟩, trivial⟩, ?_⟩ | refine useT (wey).toT ?_ ⟨⟨rfl, rfl, rfl, trivial⟩, trivial⟩); refine stp ?_; try with_reducible exact True.intro
                simp [e5]
            · refine stp ?_; try with_reducible exact True.intro
              cases jk
              · refine stp ?_; try with_reducible exact True.intro
              · have e5 := hja rfl
                refine stp ?_; try with_reducible exact True.intro
                (first | refine .inl ⟨_, _, wej, ⟨⟨rfl, rfl, rfl, trivial⟩, trivial⟩, ?_⟩ | refine useT (wej).toT ?_ ⟨⟨rfl, rfl, rfl, trivial⟩, trivial⟩); refine stp ?_; try with_reducible exact True.intro
                (first | refine .inl ⟨_, _, wex, ⟨⟨rfl, rfl, rfl, trivial⟩, trivial⟩, ?_⟩ | refine useT (wex).toT ?_ ⟨⟨rfl, rfl, rfl, trivial⟩, trivial⟩); refine stp ?_; try with_reducible exact True.intro
                (first | refine .inl ⟨_, _, wey, ⟨⟨rfl, rfl, rfl, trivial⟩, trivial⟩, ?_⟩ | refine useT (wey).toT ?_ ⟨⟨rfl, rfl, rfl, trivial⟩, trivial⟩); refine stp ?_; try with_reducible exact True.intro
                simp [e5]
          · refine stp ?_; try with_reducible exact True.intro
            cases jk
            · refine stp ?_; try with_reducible exact True.intro
            · have e5 := hja rfl
              refine stp ?_; try with_reducible exact True.intro
              (first | refine .inl ⟨_, _, wej, ⟨⟨rfl, rfl, rfl, trivial⟩, trivial⟩, ?_⟩ | refine useT (wej).toT ?_ ⟨⟨rfl, rfl, rfl, trivial⟩, trivial⟩); refine stp ?_; try with_reducible exact True.intro
              (first | refine .inl ⟨_, _, wex, ⟨⟨rfl, rfl, rfl, trivial⟩, trivial⟩, ?_⟩ | refine useT (wex).toT ?_ ⟨⟨rfl, rfl, rfl, trivial⟩, trivial⟩); refine stp ?_; try with_reducible exact True.intro
              (first | refine .inl ⟨_, _, wey, ⟨⟨rfl, rfl, rfl, trivial⟩, trivial⟩, ?_⟩ | refine useT (wey).toT ?_ ⟨⟨rfl, rfl, rfl, trivial⟩, trivial⟩); refine stp ?_; try with_reducible exact True.intro
              simp [e5]
end Go.Proofs.YtaoepnmhflmhhaaTv
end
section
open Go Go.Proofs.YtaoepnmhflmhhaaVe Go.Proofs.YtaoepnmhflmhhaaTv Go.Proofs
namespace Go.Proofs.YtaoepnmhflmhhaaTv
set_option maxRecDepth 8000
set_option maxHeartbeats 2000000
theorem FnCutsC (code : List Int) (hc2 : (code.length : Int) ≤ 1048576) (hP : isP (d21 code (s0 code)).1 = false) (hN : (-10 ≤ bl code 15 (s0 code) - 11 ∧ bl code 15 (s0 code) - 11 ≤ 2)) : ConS Try.prog 7 [.val (.list (.int .u8)) code] (.b true) := by
  refine conS_of hmix hTab Try.func7 rfl rfl (by kernel_rfl) (by show 1 ≤ Try.f7.ntmps; decide) rfl ?_
  refine stp ?_; try with_reducible exact True.intro
  refine useT ((bigFC code (by omega)).toT) ?_; try with_reducible exact True.intro
  rw [decide_eq_false (show ¬ (code.length : Int) > 1048576 by omega)]
  have wd := DrawCutAround code hc2
  have wj := DrawJoinBorders code hc2
  have we := DrawSurfacesWith code hc2
  have rx := d21_rng code (s0 code)
  have ry := d21_rng code (d21 code (s0 code)).2
  have rn := bl_rng code (show (1 : Int) ≤ 15 by decide) (s0 code)
  generalize (d21 code (s0 code)).1 = x at *
  generalize (d21 code (d21 code (s0 code)).2).1 = y at *
  generalize hn : bl code 15 (s0 code) - 11 = n at *
  replace rn : -11 ≤ n ∧ n ≤ 3 := by omega
  clear hn
  have wcI := CutAroundI x
  have wcS := CutAroundS x
  have wgI := GlueBordersI x
  have wgS := GlueBordersS x
  have wjI := JoinBordersI x y
  have wjS := JoinBordersS x y
  have wlI := DividingCutsN x hP
  have wlS := DividingCutsSN x hP
  have wsI := SurfacesWithI n hN
  have wsS := SurfacesWithS n
  rw [if_pos hN] at wsS
  have wmI := MostCurvesI x
  have wmS := MostCurvesS x
  have wpI := CountPiecesI x
  have wpS := CountPiecesS x
  have wex := EulerS x
  have wey := EulerS y
  have hcg := @cut_glue x
  have hja := @join_adds x y
  have wgc := GlueBordersI (cutM x).1
  have wec := EulerS (cutM x).1
  have wej := EulerS (joiM x y).1
  have wis := IsSurfaceS x
  have hpc := @pieces x
  generalize isS x = si at *
  have ex := eul_rng x
  have ey := eul_rng y
  have ec := eul_rng (cutM x).1
  have ej := eul_rng (joiM x y).1
  have px := pie_rng x
  have mx := mos_rng x
  have hfr := @f1_rows n
  have hP' := hP
  have hfl := f1_len n 21
  generalize eul x = e1 at *
  generalize eul y = e2 at *
  generalize eul (cutM x).1 = e3 at *
  generalize eul (joiM x y).1 = e4 at *
  generalize pieM x = p1 at *
  generalize mosM x = m1 at *
  generalize hgc : gluM (cutM x).1 = gc at *
  generalize hcx : cutM x = cx at *
  generalize hgx : gluM x = gx at *
  generalize hjx : joiM x y = jx at *
  obtain ⟨⟨c1, c2, c3⟩, ck⟩ := cx
  obtain ⟨⟨g1, g2, g3⟩, gk⟩ := gx
  obtain ⟨⟨j1, j2, j3⟩, jk⟩ := jx
  obtain ⟨⟨b1, b2, b3⟩, bk⟩ := gc
  obtain ⟨xh, xc, xb⟩ := x
  obtain ⟨yh, yc, yb⟩ := y
  dsimp only [tolV, sfV] at *
  generalize f1 n 21 = F at *
  refine stp ?_; try with_reducible exact True.intro
  refine useT (wd) ?_; try with_reducible exact True.intro
  refine useT wcI.toT ?_ ⟨⟨rfl, rfl, rfl, trivial⟩, trivial⟩
  refine stp ?_; try with_reducible exact True.intro
  refine useT wcS.toT ?_ ⟨⟨rfl, rfl, rfl, trivial⟩, trivial⟩
  refine stp ?_; try with_reducible exact True.intro
  refine useT wlI ?_ ⟨⟨rfl, rfl, rfl, trivial⟩, trivial⟩
  refine stp ?_; try with_reducible exact True.intro
  refine useT wlS ?_ ⟨⟨rfl, rfl, rfl, trivial⟩, trivial⟩
  refine stp ?_; try with_reducible exact True.intro
  refine useT wgI.toT ?_ ⟨⟨rfl, rfl, rfl, trivial⟩, trivial⟩
  refine stp ?_; try with_reducible exact True.intro
  refine useT wgS.toT ?_ ⟨⟨rfl, rfl, rfl, trivial⟩, trivial⟩
  refine stp ?_; try with_reducible exact True.intro
  refine useT (wj) ?_; try with_reducible exact True.intro
  refine useT wjI.toT ?_ ⟨⟨rfl, rfl, rfl, trivial⟩, ⟨rfl, rfl, rfl, trivial⟩, trivial⟩
  refine stp ?_; try with_reducible exact True.intro
  refine useT wjS.toT ?_ ⟨⟨rfl, rfl, rfl, trivial⟩, ⟨rfl, rfl, rfl, trivial⟩, trivial⟩
  refine stp ?_; try with_reducible exact True.intro
  refine useT (we) ?_; try with_reducible exact True.intro
  refine useT (wsI) ?_; try with_reducible exact True.intro
  repeat (refine brF (by simp) ?_; refine stp ?_; try with_reducible exact True.intro)
  refine .inr ⟨_, _, _, wsS, by repeat (first | exact trivial | refine ⟨by first | exact rfl | exact trivial | exact ⟨_, rfl, rfl⟩ | exact ⟨_, _, rfl, by first | (simp; done) | (simp; omega), by first | (simp; done) | (simp [List.take_of_length_le]; done) | (rw [List.drop_zero]; exact List.take_of_length_le (by first | omega | (simp; omega))) | (simp [List.take_of_length_le]; omega)⟩ | exact ⟨_, rfl, by first | (simp; done) | (simp; omega), by first | (simp; done) | (simp [List.take_of_length_le]; done) | (rw [List.drop_zero]; exact List.take_of_length_le (by first | omega | (simp; omega))) | (simp [List.take_of_length_le]; omega)⟩, ?_⟩), rfl, rfl, by first | exact ⟨rfl, trivial⟩ | decide | (simp [okOs, okO]; done) | (simp [okOs, okO, okWs, okW, most]; done) | (simp [okOs, okO, okWs, okW, most]; omega), ?_⟩; refine stp ?_; try with_reducible exact True.intro
  refine useT ((sameSurfaces F F (by omega) (by omega)).toT) ?_; try with_reducible exact True.intro
  repeat (refine brF (by simp) ?_; refine stp ?_; try with_reducible exact True.intro)
  (first | refine .inl ⟨_, _, wmI, ⟨⟨rfl, rfl, rfl, trivial⟩, trivial⟩, ?_⟩ | refine useT (wmI).toT ?_ ⟨⟨rfl, rfl, rfl, trivial⟩, trivial⟩); refine stp ?_; try with_reducible exact True.intro
  (first | refine .inl ⟨_, _, wmS, ⟨⟨rfl, rfl, rfl, trivial⟩, trivial⟩, ?_⟩ | refine useT (wmS).toT ?_ ⟨⟨rfl, rfl, rfl, trivial⟩, trivial⟩); refine stp ?_; try with_reducible exact True.intro
  refine brF (by simp) ?_
  refine stp ?_; try with_reducible exact True.intro
  (first | refine .inl ⟨_, _, wpI, ⟨⟨rfl, rfl, rfl, trivial⟩, trivial⟩, ?_⟩ | refine useT (wpI).toT ?_ ⟨⟨rfl, rfl, rfl, trivial⟩, trivial⟩); refine stp ?_; try with_reducible exact True.intro
  (first | refine .inl ⟨_, _, wpS, ⟨⟨rfl, rfl, rfl, trivial⟩, trivial⟩, ?_⟩ | refine useT (wpS).toT ?_ ⟨⟨rfl, rfl, rfl, trivial⟩, trivial⟩); refine stp ?_; try with_reducible exact True.intro
  refine brF (by simp) ?_
  refine stp ?_; try with_reducible exact True.intro
  refine Br.mk (fun hck => ?_) (fun hck => ?_)
  · obtain ⟨he, hb⟩ := hcg hck
    simp only [Prod.mk.injEq] at hb
    obtain ⟨⟨hb1, hb2, hb3⟩, hbk⟩ := hb
    replace hb1 := hb1.symm; replace hb2 := hb2.symm; replace hb3 := hb3.symm; replace he := he.symm
    subst hb1 hb2 hb3 hbk he
    refine stp ?_; try with_reducible exact True.intro
    refine useT wgc.toT ?_ ⟨⟨rfl, rfl, rfl, trivial⟩, trivial⟩
    refine stp ?_; try with_reducible exact True.intro
    (first | refine .inl ⟨_, _, wec, ⟨⟨rfl, rfl, rfl, trivial⟩, trivial⟩, ?_⟩ | refine useT (wec).toT ?_ ⟨⟨rfl, rfl, rfl, trivial⟩, trivial⟩); refine stp ?_; try with_reducible exact True.intro
    (first | refine .inl ⟨_, _, wex, ⟨⟨rfl, rfl, rfl, trivial⟩, trivial⟩, ?_⟩ | refine useT (wex).toT ?_ ⟨⟨rfl, rfl, rfl, trivial⟩, trivial⟩); refine stp ?_; try with_reducible exact True.intro
    refine brF (by simp) ?_
    refine stp ?_; try with_reducible exact True.intro
    refine brF (by simp) ?_
    refine stp ?_; try with_reducible exact True.intro
    refine ⟨Nat, fun k => k = 0, fun k => 1 - k, fun k => [(3, .pcell 0 0), (8, .nil .unit), (14, .pcell 1 0), (15, .pcell 2 0), (16, .pcell 3 0), (17, .b jk), (20, .i n), (21, .own 4 0 F.length), (24, .i 0)], fun k => [.vars [.i xh, .i xc, .i xb], .vars [.i xh, .i xc, .i xb], .vars [.i yh, .i yc, .i yb], .vars [.i j1, .i j2, .i j3], .arr sqT F true], ⟨0, ⟨.frz [], [0, 6, 7, 8, 10], ⟨rfl, rfl, rfl, rfl, rfl, rfl, rfl, rfl, rfl, trivial⟩, ⟨rfl, rfl, rfl, rfl, rfl, trivial⟩, by decide, rfl, rfl, rfl⟩, rfl⟩, fun k hk => ?_⟩
    refine stp ?_; try with_reducible exact True.intro
    · refine ⟨Nat, fun k => k ≤ F.length, fun k => F.length - k, fun k => [(3, .pcell 0 0), (14, .pcell 1 0), (15, .pcell 2 0), (16, .pcell 3 0), (17, .b jk), (20, .i n), (21, .own 4 0 F.length), (27, .i k)], fun k => [.vars [.i xh, .i xc, .i xb], .vars [.i xh, .i xc, .i xb], .vars [.i yh, .i yc, .i yb], .vars [.i j1, .i j2, .i j3], .arr sqT F true], ⟨0, ⟨.frz [], [0, 1, 2, 3, 4], ⟨rfl, rfl, rfl, rfl, rfl, rfl, rfl, rfl, trivial⟩, ⟨rfl, rfl, rfl, rfl, rfl, trivial⟩, by decide, rfl, rfl, rfl⟩, Nat.zero_le _⟩, fun k hk => ?_⟩
      refine stp ?_; try with_reducible exact True.intro
      refine Br.mk (fun h6 => ?_) (fun h6 => ?_) <;> simp only [decide_eq_true_eq, decide_eq_false_iff_not, ne_eq, Decidable.not_not, Bool.not_eq_eq_eq_not, Bool.not_true, Bool.not_false] at h6
      · have r5 := hfr k (by omega)
        have we3 := EulerS (unq (rdT sqT F k))
        rw [r5] at we3
        dsimp only [sfV, unq] at we3
        refine stp ?_; try with_reducible exact True.intro
        refine useT we3.toT ?_ ⟨⟨rfl, rfl, rfl, trivial⟩, trivial⟩
        refine stp ?_; try with_reducible exact True.intro
        refine brF (by simp) ?_
        refine stp ?_; try with_reducible exact True.intro
        exact ⟨k + 1, ⟨.frz [], [0, 1, 2, 3, 4], ⟨rfl, rfl, rfl, rfl, rfl, rfl, rfl, rfl, trivial⟩, ⟨rfl, rfl, rfl, rfl, rfl, trivial⟩, by decide, rfl, rfl, rfl⟩, by omega, by first | omega | (dsimp only; omega)⟩
      · refine stp ?_; try with_reducible exact True.intro
        cases si
        · refine useT wis.toT ?_ ⟨⟨rfl, rfl, rfl, trivial⟩, trivial⟩
          refine stp ?_; try with_reducible exact True.intro
          cases jk
          · refine stp ?_; try with_reducible exact True.intro
          · have e5 := hja rfl
            refine stp ?_; try with_reducible exact True.intro
            (first | refine .inl ⟨_, _, wej, ⟨⟨rfl, rfl, rfl, trivial⟩, trivial⟩, ?_⟩ | refine useT (wej).toT ?_ ⟨⟨rfl, rfl, rfl, trivial⟩, trivial⟩); refine stp ?_; try with_reducible exact True.intro
            (first | refine .inl ⟨_, _, wex, ⟨⟨rfl, rfl, rfl, trivial⟩, trivial⟩, ?_⟩ | refine useT (wex).toT ?_ ⟨⟨rfl, rfl, rfl, trivial⟩, trivial⟩); refine stp ?_; try with_reducible exact True.intro
            (first | refine .inl ⟨_, _, wey, ⟨⟨rfl, rfl, rfl, trivial⟩, trivial⟩, ?_⟩ | refine useT (wey).toT ?_ ⟨⟨rfl, rfl, rfl, trivial⟩, trivial⟩); refine stp ?_; try with_reducible exact True.intro
            simp [e5]
        · refine useT wis.toT ?_ ⟨⟨rfl, rfl, rfl, trivial⟩, trivial⟩
          refine stp ?_; try with_reducible exact True.intro
          refine Br.mk (fun hxc => ?_) (fun hxc => ?_) <;> simp only [decide_eq_true_eq, decide_eq_false_iff_not, ne_eq, Decidable.not_not, Bool.not_eq_eq_eq_not, Bool.not_true, Bool.not_false] at hxc
          · refine stp ?_; try with_reducible exact True.intro
            (first | refine .inl ⟨_, _, wex, ⟨⟨rfl, rfl, rfl, trivial⟩, trivial⟩, ?_⟩ | refine useT (wex).toT ?_ ⟨⟨rfl, rfl, rfl, trivial⟩, trivial⟩); refine stp ?_; try with_reducible exact True.intro
            refine Br.mk (fun hneg => ?_) (fun hneg => ?_) <;> simp only [decide_eq_true_eq, decide_eq_false_iff_not, ne_eq, Decidable.not_not, Bool.not_eq_eq_eq_not, Bool.not_true, Bool.not_false] at hneg
            · obtain ⟨hp1, hp2⟩ := hpc rfl hxc hneg
              refine stp ?_; try with_reducible exact True.intro
              (first | refine .inl ⟨_, _, wpI, ⟨⟨rfl, rfl, rfl, trivial⟩, trivial⟩, ?_⟩ | refine useT (wpI).toT ?_ ⟨⟨rfl, rfl, rfl, trivial⟩, trivial⟩); refine stp ?_; try with_reducible exact True.intro
              (first | refine .inl ⟨_, _, wex, ⟨⟨rfl, rfl, rfl, trivial⟩, trivial⟩, ?_⟩ | refine useT (wex).toT ?_ ⟨⟨rfl, rfl, rfl, trivial⟩, trivial⟩); refine stp ?_; try with_reducible exact True.intro
              refine brF (by simp; omega) ?_
              refine stp ?_; try with_reducible exact True.intro
              (first | refine .inl ⟨_, _, wmI, ⟨⟨rfl, rfl, rfl, trivial⟩, trivial⟩, ?_⟩ | refine useT (wmI).toT ?_ ⟨⟨rfl, rfl, rfl, trivial⟩, trivial⟩); refine stp ?_; try with_reducible exact True.intro
              (first | refine .inl ⟨_, _, wpI, ⟨⟨rfl, rfl, rfl, trivial⟩, trivial⟩, ?_⟩ | refine useT (wpI).toT ?_ ⟨⟨rfl, rfl, rfl, trivial⟩, trivial⟩); refine stp ?_; try with_reducible exact True.intro
              refine brF (by simp; omega) ?_
              refine stp ?_; try with_reducible exact True.intro
              cases jk
              · refine stp ?_; try with_reducible exact True.intro
              · have e5 := hja rfl
                refine stp ?_; try with_reducible exact True.intro
                (first | refine .inl ⟨_, _, wej, ⟨⟨rfl, rfl, rfl, trivial⟩, trivial⟩, ?_⟩ | refine useT (wej).toT ?_ ⟨⟨rfl, rfl, rfl, trivial⟩, trivial⟩); refine stp ?_; try with_reducible exact True.intro
                (first | refine .inl ⟨_, _, wex, ⟨⟨rfl, rfl, rfl, trivial⟩, trivial⟩, ?_⟩ | refine useT (wex).toT ?_ ⟨⟨rfl, rfl, rfl, trivial⟩, trivial⟩); refine stp ?_; try with_reducible exact True.intro
                (first | refine .inl ⟨_, _, wey, ⟨⟨rfl, rfl, rfl, trivial⟩, trivial⟩, ?_⟩ | refine useT (wey).toT ?_ ⟨⟨rfl, rfl, rfl, trivial⟩, trivial⟩); refine stp ?_; try with_reducible exact True.intro
                simp [e5]
            · refine stp ?_; try with_reducible exact True.intro
              cases jk
              · refine stp ?_; try with_reducible exact True.intro
              · have e5 := hja rfl
                refine stp ?_; try with_reducible exact True.intro
                (first | refine .inl ⟨_, _, wej, ⟨⟨rfl, rfl, rfl, trivial⟩, trivial⟩, ?_⟩ | refine useT (wej).toT ?_ ⟨⟨rfl, rfl, rfl, trivial⟩, trivial⟩); refine stp ?_; try with_reducible exact True.intro
                (first | refine .inl ⟨_, _, wex, ⟨⟨rfl, rfl, rfl, trivial⟩, trivial⟩, ?_⟩ | refine useT (wex).toT ?_ ⟨⟨rfl, rfl, rfl, trivial⟩, trivial⟩); refine stp ?_; try with_reducible exact True.intro
                (first | refine .inl ⟨_, _, wey, ⟨⟨rfl, rfl, rfl, trivial⟩, trivial⟩, ?_⟩ | refine useT (wey).toT ?_ ⟨⟨rfl, rfl, rfl, trivial⟩, trivial⟩); refine stp ?_; try with_reducible exact True.intro
                simp [e5]
          · refine stp ?_; try with_reducible exact True.intro
            cases jk
            · refine stp ?_; try with_reducible exact True.intro
            · have e5 := hja rfl
              refine stp ?_; try with_reducible exact True.intro
              (first | refine .inl ⟨_, _, wej, ⟨⟨rfl, rfl, rfl, trivial⟩, trivial⟩, ?_⟩ | refine useT (wej).toT ?_ ⟨⟨rfl, rfl, rfl, trivial⟩, trivial⟩); refine stp ?_; try with_reducible exact True.intro
              (first | refine .inl ⟨_, _, wex, ⟨⟨rfl, rfl, rfl, trivial⟩, trivial⟩, ?_⟩ | refine useT (wex).toT ?_ ⟨⟨rfl, rfl, rfl, trivial⟩, trivial⟩); refine stp ?_; try with_reducible exact True.intro
              (first | refine .inl ⟨_, _, wey, ⟨⟨rfl, rfl, rfl, trivial⟩, trivial⟩, ?_⟩ | refine useT (wey).toT ?_ ⟨⟨rfl, rfl, rfl, trivial⟩, trivial⟩); refine stp ?_; try with_reducible exact True.intro
              simp [e5]
  · refine stp ?_; try with_reducible exact True.intro
    refine ⟨Nat, fun k => k = 0, fun k => 1 - k, fun k => [(3, .pcell 0 0), (8, .nil .unit), (14, .pcell 1 0), (15, .pcell 2 0), (16, .pcell 3 0), (17, .b jk), (20, .i n), (21, .own 4 0 F.length), (24, .i 0)], fun k => [.vars [.i xh, .i xc, .i xb], .vars [.i xh, .i xc, .i xb], .vars [.i yh, .i yc, .i yb], .vars [.i j1, .i j2, .i j3], .arr sqT F true], ⟨0, ⟨.frz [], [0, 6, 7, 8, 10], ⟨rfl, rfl, rfl, rfl, rfl, rfl, rfl, rfl, rfl, trivial⟩, ⟨rfl, rfl, rfl, rfl, rfl, trivial⟩, by decide, rfl, rfl, rfl⟩, rfl⟩, fun k hk => ?_⟩
    refine stp ?_; try with_reducible exact True.intro
    · refine ⟨Nat, fun k => k ≤ F.length, fun k => F.length - k, fun k => [(3, .pcell 0 0), (14, .pcell 1 0), (15, .pcell 2 0), (16, .pcell 3 0), (17, .b jk), (20, .i n), (21, .own 4 0 F.length), (27, .i k)], fun k => [.vars [.i xh, .i xc, .i xb], .vars [.i xh, .i xc, .i xb], .vars [.i yh, .i yc, .i yb], .vars [.i j1, .i j2, .i j3], .arr sqT F true], ⟨0, ⟨.frz [], [0, 1, 2, 3, 4], ⟨rfl, rfl, rfl, rfl, rfl, rfl, rfl, rfl, trivial⟩, ⟨rfl, rfl, rfl, rfl, rfl, trivial⟩, by decide, rfl, rfl, rfl⟩, Nat.zero_le _⟩, fun k hk => ?_⟩
      refine stp ?_; try with_reducible exact True.intro
      refine Br.mk (fun h6 => ?_) (fun h6 => ?_) <;> simp only [decide_eq_true_eq, decide_eq_false_iff_not, ne_eq, Decidable.not_not, Bool.not_eq_eq_eq_not, Bool.not_true, Bool.not_false] at h6
      · have r5 := hfr k (by omega)
        have we3 := EulerS (unq (rdT sqT F k))
        rw [r5] at we3
        dsimp only [sfV, unq] at we3
        refine stp ?_; try with_reducible exact True.intro
        refine useT we3.toT ?_ ⟨⟨rfl, rfl, rfl, trivial⟩, trivial⟩
        refine stp ?_; try with_reducible exact True.intro
        refine brF (by simp) ?_
        refine stp ?_; try with_reducible exact True.intro
        exact ⟨k + 1, ⟨.frz [], [0, 1, 2, 3, 4], ⟨rfl, rfl, rfl, rfl, rfl, rfl, rfl, rfl, trivial⟩, ⟨rfl, rfl, rfl, rfl, rfl, trivial⟩, by decide, rfl, rfl, rfl⟩, by omega, by first | omega | (dsimp only; omega)⟩
      · refine stp ?_; try with_reducible exact True.intro
        cases si
        · refine useT wis.toT ?_ ⟨⟨rfl, rfl, rfl, trivial⟩, trivial⟩
          refine stp ?_; try with_reducible exact True.intro
          cases jk
          · refine stp ?_; try with_reducible exact True.intro
          · have e5 := hja rfl
            refine stp ?_; try with_reducible exact True.intro
            (first | refine .inl ⟨_, _, wej, ⟨⟨rfl, rfl, rfl, trivial⟩, trivial⟩, ?_⟩ | refine useT (wej).toT ?_ ⟨⟨rfl, rfl, rfl, trivial⟩, trivial⟩); refine stp ?_; try with_reducible exact True.intro
            (first | refine .inl ⟨_, _, wex, ⟨⟨rfl, rfl, rfl, trivial⟩, trivial⟩, ?_⟩ | refine useT (wex).toT ?_ ⟨⟨rfl, rfl, rfl, trivial⟩, trivial⟩); refine stp ?_; try with_reducible exact True.intro
            (first | refine .inl ⟨_, _, wey, ⟨⟨rfl, rfl, rfl, trivial⟩, trivial⟩, ?_⟩ | refine useT (wey).toT ?_ ⟨⟨rfl, rfl, rfl, trivial⟩, trivial⟩); refine stp ?_; try with_reducible exact True.intro
            simp [e5]
        · refine useT wis.toT ?_ ⟨⟨rfl, rfl, rfl, trivial⟩, trivial⟩
          refine stp ?_; try with_reducible exact True.intro
          refine Br.mk (fun hxc => ?_) (fun hxc => ?_) <;> simp only [decide_eq_true_eq, decide_eq_false_iff_not, ne_eq, Decidable.not_not, Bool.not_eq_eq_eq_not, Bool.not_true, Bool.not_false] at hxc
          · refine stp ?_; try with_reducible exact True.intro
            (first | refine .inl ⟨_, _, wex, ⟨⟨rfl, rfl, rfl, trivial⟩, trivial⟩, ?_⟩ | refine useT (wex).toT ?_ ⟨⟨rfl, rfl, rfl, trivial⟩, trivial⟩); refine stp ?_; try with_reducible exact True.intro
            refine Br.mk (fun hneg => ?_) (fun hneg => ?_) <;> simp only [decide_eq_true_eq, decide_eq_false_iff_not, ne_eq, Decidable.not_not, Bool.not_eq_eq_eq_not, Bool.not_true, Bool.not_false] at hneg
            · obtain ⟨hp1, hp2⟩ := hpc rfl hxc hneg
              refine stp ?_; try with_reducible exact True.intro
              (first | refine .inl ⟨_, _, wpI, ⟨⟨rfl, rfl, rfl, trivial⟩, trivial⟩, ?_⟩ | refine useT (wpI).toT ?_ ⟨⟨rfl, rfl, rfl, trivial⟩, trivial⟩); refine stp ?_; try with_reducible exact True.intro
              (first | refine .inl ⟨_, _, wex, ⟨⟨rfl, rfl, rfl, trivial⟩, trivial⟩, ?_⟩ | refine useT (wex).toT ?_ ⟨⟨rfl, rfl, rfl, trivial⟩, trivial⟩); refine stp ?_; try with_reducible exact True.intro
              refine brF (by simp; omega) ?_
              refine stp ?_; try with_reducible exact True.intro
              (first | refine .inl ⟨_, _, wmI, ⟨⟨rfl, rfl, rfl, trivial⟩, trivial⟩, ?_⟩ | refine useT (wmI).toT ?_ ⟨⟨rfl, rfl, rfl, trivial⟩, trivial⟩); refine stp ?_; try with_reducible exact True.intro
              (first | refine .inl ⟨_, _, wpI, ⟨⟨rfl, rfl, rfl, trivial⟩, trivial⟩, ?_⟩ | refine useT (wpI).toT ?_ ⟨⟨rfl, rfl, rfl, trivial⟩, trivial⟩); refine stp ?_; try with_reducible exact True.intro
              refine brF (by simp; omega) ?_
              refine stp ?_; try with_reducible exact True.intro
              cases jk
              · refine stp ?_; try with_reducible exact True.intro
              · have e5 := hja rfl
                refine stp ?_; try with_reducible exact True.intro
                (first | refine .inl ⟨_, _, wej, ⟨⟨rfl, rfl, rfl, trivial⟩, trivial⟩, ?_⟩ | refine useT (wej).toT ?_ ⟨⟨rfl, rfl, rfl, trivial⟩, trivial⟩); refine stp ?_; try with_reducible exact True.intro
                (first | refine .inl ⟨_, _, wex, ⟨⟨rfl, rfl, rfl, trivial⟩, trivial⟩, ?_⟩ | refine useT (wex).toT ?_ ⟨⟨rfl, rfl, rfl, trivial⟩, trivial⟩); refine stp ?_; try with_reducible exact True.intro
                (first | refine .inl ⟨_, _, wey, ⟨⟨rfl, rfl, rfl, trivial⟩, trivial⟩, ?_⟩ | refine useT (wey).toT ?_ ⟨⟨rfl, rfl, rfl, trivial⟩, trivial⟩); refine stp ?_; try with_reducible exact True.intro
                simp [e5]
            · refine stp ?_; try with_reducible exact True.intro
              cases jk
              · refine stp ?_; try with_reducible exact True.intro
              · have e5 := hja rfl
                refine stp ?_; try with_reducible exact True.intro
                (first | refine .inl ⟨_, _, wej, ⟨⟨rfl, rfl, rfl, trivial⟩, trivial⟩, ?_⟩ | refine useT (wej).toT ?_ ⟨⟨rfl, rfl, rfl, trivial⟩, trivial⟩); refine stp ?_; try with_reducible exact True.intro
                (first | refine .inl ⟨_, _, wex, ⟨⟨rfl, rfl, rfl, trivial⟩, trivial⟩, ?_⟩ | refine useT (wex).toT ?_ ⟨⟨rfl, rfl, rfl, trivial⟩, trivial⟩); refine stp ?_; try with_reducible exact True.intro
                (first | refine .inl ⟨_, _, wey, ⟨⟨rfl, rfl, rfl, trivial⟩, trivial⟩, ?_⟩ | refine useT (wey).toT ?_ ⟨⟨rfl, rfl, rfl, trivial⟩, trivial⟩); refine stp ?_; try with_reducible exact True.intro
                simp [e5]
          · refine stp ?_; try with_reducible exact True.intro
            cases jk
            · refine stp ?_; try with_reducible exact True.intro
            · have e5 := hja rfl
              refine stp ?_; try with_reducible exact True.intro
              (first | refine .inl ⟨_, _, wej, ⟨⟨rfl, rfl, rfl, trivial⟩, trivial⟩, ?_⟩ | refine useT (wej).toT ?_ ⟨⟨rfl, rfl, rfl, trivial⟩, trivial⟩); refine stp ?_; try with_reducible exact True.intro
              (first | refine .inl ⟨_, _, wex, ⟨⟨rfl, rfl, rfl, trivial⟩, trivial⟩, ?_⟩ | refine useT (wex).toT ?_ ⟨⟨rfl, rfl, rfl, trivial⟩, trivial⟩); refine stp ?_; try with_reducible exact True.intro
              (first | refine .inl ⟨_, _, wey, ⟨⟨rfl, rfl, rfl, trivial⟩, trivial⟩, ?_⟩ | refine useT (wey).toT ?_ ⟨⟨rfl, rfl, rfl, trivial⟩, trivial⟩); refine stp ?_; try with_reducible exact True.intro
              simp [e5]
end Go.Proofs.YtaoepnmhflmhhaaTv
end
section
open Go Go.Proofs.YtaoepnmhflmhhaaVe Go.Proofs.YtaoepnmhflmhhaaTv Go.Proofs
namespace Go.Proofs.YtaoepnmhflmhhaaTv
set_option maxRecDepth 8000
set_option maxHeartbeats 2000000
theorem FnCutsD (code : List Int) (hc2 : (code.length : Int) ≤ 1048576) (hP : isP (d21 code (s0 code)).1 = false) (hN : ¬ (-10 ≤ bl code 15 (s0 code) - 11 ∧ bl code 15 (s0 code) - 11 ≤ 2)) : ConS Try.prog 7 [.val (.list (.int .u8)) code] (.b true) := by
  refine conS_of hmix hTab Try.func7 rfl rfl (by kernel_rfl) (by show 1 ≤ Try.f7.ntmps; decide) rfl ?_
  refine stp ?_; try with_reducible exact True.intro
  refine useT ((bigFC code (by omega)).toT) ?_; try with_reducible exact True.intro
  rw [decide_eq_false (show ¬ (code.length : Int) > 1048576 by omega)]
  have wd := DrawCutAround code hc2
  have wj := DrawJoinBorders code hc2
  have we := DrawSurfacesWith code hc2
  have rx := d21_rng code (s0 code)
  have ry := d21_rng code (d21 code (s0 code)).2
  have rn := bl_rng code (show (1 : Int) ≤ 15 by decide) (s0 code)
  generalize (d21 code (s0 code)).1 = x at *
  generalize (d21 code (d21 code (s0 code)).2).1 = y at *
  generalize hn : bl code 15 (s0 code) - 11 = n at *
  replace rn : -11 ≤ n ∧ n ≤ 3 := by omega
  clear hn
  have wcI := CutAroundI x
  have wcS := CutAroundS x
  have wgI := GlueBordersI x
  have wgS := GlueBordersS x
  have wjI := JoinBordersI x y
  have wjS := JoinBordersS x y
  have wlI := DividingCutsN x hP
  have wlS := DividingCutsSN x hP
  have wsI := SurfacesWithN n hN
  have wsS := SurfacesWithS n
  rw [if_neg hN] at wsS
  have wmI := MostCurvesI x
  have wmS := MostCurvesS x
  have wpI := CountPiecesI x
  have wpS := CountPiecesS x
  have wex := EulerS x
  have wey := EulerS y
  have hcg := @cut_glue x
  have hja := @join_adds x y
  have wgc := GlueBordersI (cutM x).1
  have wec := EulerS (cutM x).1
  have wej := EulerS (joiM x y).1
  have wis := IsSurfaceS x
  have hpc := @pieces x
  generalize isS x = si at *
  have ex := eul_rng x
  have ey := eul_rng y
  have ec := eul_rng (cutM x).1
  have ej := eul_rng (joiM x y).1
  have px := pie_rng x
  have mx := mos_rng x
  have hP' := hP
  generalize eul x = e1 at *
  generalize eul y = e2 at *
  generalize eul (cutM x).1 = e3 at *
  generalize eul (joiM x y).1 = e4 at *
  generalize pieM x = p1 at *
  generalize mosM x = m1 at *
  generalize hgc : gluM (cutM x).1 = gc at *
  generalize hcx : cutM x = cx at *
  generalize hgx : gluM x = gx at *
  generalize hjx : joiM x y = jx at *
  obtain ⟨⟨c1, c2, c3⟩, ck⟩ := cx
  obtain ⟨⟨g1, g2, g3⟩, gk⟩ := gx
  obtain ⟨⟨j1, j2, j3⟩, jk⟩ := jx
  obtain ⟨⟨b1, b2, b3⟩, bk⟩ := gc
  obtain ⟨xh, xc, xb⟩ := x
  obtain ⟨yh, yc, yb⟩ := y
  dsimp only [tolV, sfV] at *
  refine stp ?_; try with_reducible exact True.intro
  refine useT (wd) ?_; try with_reducible exact True.intro
  refine useT wcI.toT ?_ ⟨⟨rfl, rfl, rfl, trivial⟩, trivial⟩
  refine stp ?_; try with_reducible exact True.intro
  refine useT wcS.toT ?_ ⟨⟨rfl, rfl, rfl, trivial⟩, trivial⟩
  refine stp ?_; try with_reducible exact True.intro
  refine useT wlI ?_ ⟨⟨rfl, rfl, rfl, trivial⟩, trivial⟩
  refine stp ?_; try with_reducible exact True.intro
  refine useT wlS ?_ ⟨⟨rfl, rfl, rfl, trivial⟩, trivial⟩
  refine stp ?_; try with_reducible exact True.intro
  refine useT wgI.toT ?_ ⟨⟨rfl, rfl, rfl, trivial⟩, trivial⟩
  refine stp ?_; try with_reducible exact True.intro
  refine useT wgS.toT ?_ ⟨⟨rfl, rfl, rfl, trivial⟩, trivial⟩
  refine stp ?_; try with_reducible exact True.intro
  refine useT (wj) ?_; try with_reducible exact True.intro
  refine useT wjI.toT ?_ ⟨⟨rfl, rfl, rfl, trivial⟩, ⟨rfl, rfl, rfl, trivial⟩, trivial⟩
  refine stp ?_; try with_reducible exact True.intro
  refine useT wjS.toT ?_ ⟨⟨rfl, rfl, rfl, trivial⟩, ⟨rfl, rfl, rfl, trivial⟩, trivial⟩
  refine stp ?_; try with_reducible exact True.intro
  refine useT (we) ?_; try with_reducible exact True.intro
  refine useT (wsI) ?_; try with_reducible exact True.intro
  repeat (refine brF (by simp) ?_; refine stp ?_; try with_reducible exact True.intro)
  refine .inr ⟨_, _, _, wsS, by repeat (first | exact trivial | refine ⟨by first | exact rfl | exact trivial | exact ⟨_, rfl, rfl⟩ | exact ⟨_, _, rfl, by first | (simp; done) | (simp; omega), by first | (simp; done) | (simp [List.take_of_length_le]; done) | (rw [List.drop_zero]; exact List.take_of_length_le (by first | omega | (simp; omega))) | (simp [List.take_of_length_le]; omega)⟩ | exact ⟨_, rfl, by first | (simp; done) | (simp; omega), by first | (simp; done) | (simp [List.take_of_length_le]; done) | (rw [List.drop_zero]; exact List.take_of_length_le (by first | omega | (simp; omega))) | (simp [List.take_of_length_le]; omega)⟩, ?_⟩), rfl, rfl, by first | exact ⟨rfl, trivial⟩ | decide | (simp [okOs, okO]; done) | (simp [okOs, okO, okWs, okW, most]; done) | (simp [okOs, okO, okWs, okW, most]; omega), ?_⟩; refine stp ?_; try with_reducible exact True.intro
  refine useT ((sameSurfaces [] [] (by simp) (by simp)).toT) ?_; try with_reducible exact True.intro
  repeat (refine brF (by simp) ?_; refine stp ?_; try with_reducible exact True.intro)
  (first | refine .inl ⟨_, _, wmI, ⟨⟨rfl, rfl, rfl, trivial⟩, trivial⟩, ?_⟩ | refine useT (wmI).toT ?_ ⟨⟨rfl, rfl, rfl, trivial⟩, trivial⟩); refine stp ?_; try with_reducible exact True.intro
  (first | refine .inl ⟨_, _, wmS, ⟨⟨rfl, rfl, rfl, trivial⟩, trivial⟩, ?_⟩ | refine useT (wmS).toT ?_ ⟨⟨rfl, rfl, rfl, trivial⟩, trivial⟩); refine stp ?_; try with_reducible exact True.intro
  refine brF (by simp) ?_
  refine stp ?_; try with_reducible exact True.intro
  (first | refine .inl ⟨_, _, wpI, ⟨⟨rfl, rfl, rfl, trivial⟩, trivial⟩, ?_⟩ | refine useT (wpI).toT ?_ ⟨⟨rfl, rfl, rfl, trivial⟩, trivial⟩); refine stp ?_; try with_reducible exact True.intro
  (first | refine .inl ⟨_, _, wpS, ⟨⟨rfl, rfl, rfl, trivial⟩, trivial⟩, ?_⟩ | refine useT (wpS).toT ?_ ⟨⟨rfl, rfl, rfl, trivial⟩, trivial⟩); refine stp ?_; try with_reducible exact True.intro
  refine brF (by simp) ?_
  refine stp ?_; try with_reducible exact True.intro
  refine Br.mk (fun hck => ?_) (fun hck => ?_)
  · obtain ⟨he, hb⟩ := hcg hck
    simp only [Prod.mk.injEq] at hb
    obtain ⟨⟨hb1, hb2, hb3⟩, hbk⟩ := hb
    replace hb1 := hb1.symm; replace hb2 := hb2.symm; replace hb3 := hb3.symm; replace he := he.symm
    subst hb1 hb2 hb3 hbk he
    refine stp ?_; try with_reducible exact True.intro
    refine useT wgc.toT ?_ ⟨⟨rfl, rfl, rfl, trivial⟩, trivial⟩
    refine stp ?_; try with_reducible exact True.intro
    (first | refine .inl ⟨_, _, wec, ⟨⟨rfl, rfl, rfl, trivial⟩, trivial⟩, ?_⟩ | refine useT (wec).toT ?_ ⟨⟨rfl, rfl, rfl, trivial⟩, trivial⟩); refine stp ?_; try with_reducible exact True.intro
    (first | refine .inl ⟨_, _, wex, ⟨⟨rfl, rfl, rfl, trivial⟩, trivial⟩, ?_⟩ | refine useT (wex).toT ?_ ⟨⟨rfl, rfl, rfl, trivial⟩, trivial⟩); refine stp ?_; try with_reducible exact True.intro
    refine brF (by simp) ?_
    refine stp ?_; try with_reducible exact True.intro
    refine brF (by simp) ?_
    refine stp ?_; try with_reducible exact True.intro
    refine ⟨Nat, fun k => k = 0, fun k => 1 - k, fun k => [(3, .pcell 0 0), (8, .nil .unit), (14, .pcell 1 0), (15, .pcell 2 0), (16, .pcell 3 0), (17, .b jk), (20, .i n), (21, .nil .unit), (24, .i 0)], fun k => [.vars [.i xh, .i xc, .i xb], .vars [.i xh, .i xc, .i xb], .vars [.i yh, .i yc, .i yb], .vars [.i j1, .i j2, .i j3]], ⟨0, ⟨.frz [], [0, 6, 7, 8], ⟨rfl, rfl, rfl, rfl, rfl, rfl, rfl, rfl, rfl, trivial⟩, ⟨rfl, rfl, rfl, rfl, trivial⟩, by decide, rfl, rfl, rfl⟩, rfl⟩, fun k hk => ?_⟩
    refine stp ?_; try with_reducible exact True.intro
    · refine ⟨Nat, fun k => k = 0, fun k => 1 - k, fun k => [(3, .pcell 0 0), (14, .pcell 1 0), (15, .pcell 2 0), (16, .pcell 3 0), (17, .b jk), (20, .i n), (21, .nil .unit), (27, .i 0)], fun k => [.vars [.i xh, .i xc, .i xb], .vars [.i xh, .i xc, .i xb], .vars [.i yh, .i yc, .i yb], .vars [.i j1, .i j2, .i j3]], ⟨0, ⟨.frz [], [0, 1, 2, 3], ⟨rfl, rfl, rfl, rfl, rfl, rfl, rfl, rfl, trivial⟩, ⟨rfl, rfl, rfl, rfl, trivial⟩, by decide, rfl, rfl, rfl⟩, rfl⟩, fun k hk => ?_⟩
      refine stp ?_; try with_reducible exact True.intro
      · cases si
        · refine useT wis.toT ?_ ⟨⟨rfl, rfl, rfl, trivial⟩, trivial⟩
          refine stp ?_; try with_reducible exact True.intro
          cases jk
          · refine stp ?_; try with_reducible exact True.intro
          · have e5 := hja rfl
            refine stp ?_; try with_reducible exact True.intro
            (first | refine .inl ⟨_, _, wej, ⟨⟨rfl, rfl, rfl, trivial⟩, trivial⟩, ?_⟩ | refine useT (wej).toT ?_ ⟨⟨rfl, rfl, rfl, trivial⟩, trivial⟩); refine stp ?_; try with_reducible exact True.intro
            (first | refine .inl ⟨_, _, wex, ⟨⟨rfl, rfl, rfl, trivial⟩, trivial⟩, ?_⟩ | refine useT (wex).toT ?_ ⟨⟨rfl, rfl, rfl, trivial⟩, trivial⟩); refine stp ?_; try with_reducible exact True.intro
            (first | refine .inl ⟨_, _, wey, ⟨⟨rfl, rfl, rfl, trivial⟩, trivial⟩, ?_⟩ | refine useT (wey).toT ?_ ⟨⟨rfl, rfl, rfl, trivial⟩, trivial⟩); refine stp ?_; try with_reducible exact True.intro
            simp [e5]
        · refine useT wis.toT ?_ ⟨⟨rfl, rfl, rfl, trivial⟩, trivial⟩
          refine stp ?_; try with_reducible exact True.intro
          refine Br.mk (fun hxc => ?_) (fun hxc => ?_) <;> simp only [decide_eq_true_eq, decide_eq_false_iff_not, ne_eq, Decidable.not_not, Bool.not_eq_eq_eq_not, Bool.not_true, Bool.not_false] at hxc
          · refine stp ?_; try with_reducible exact True.intro
            (first | refine .inl ⟨_, _, wex, ⟨⟨rfl, rfl, rfl, trivial⟩, trivial⟩, ?_⟩ | refine useT (wex).toT ?_ ⟨⟨rfl, rfl, rfl, trivial⟩, trivial⟩); refine stp ?_; try with_reducible exact True.intro
            refine Br.mk (fun hneg => ?_) (fun hneg => ?_) <;> simp only [decide_eq_true_eq, decide_eq_false_iff_not, ne_eq, Decidable.not_not, Bool.not_eq_eq_eq_not, Bool.not_true, Bool.not_false] at hneg
            · obtain ⟨hp1, hp2⟩ := hpc rfl hxc hneg
              refine stp ?_; try with_reducible exact True.intro
              (first | refine .inl ⟨_, _, wpI, ⟨⟨rfl, rfl, rfl, trivial⟩, trivial⟩, ?_⟩ | refine useT (wpI).toT ?_ ⟨⟨rfl, rfl, rfl, trivial⟩, trivial⟩); refine stp ?_; try with_reducible exact True.intro
              (first | refine .inl ⟨_, _, wex, ⟨⟨rfl, rfl, rfl, trivial⟩, trivial⟩, ?_⟩ | refine useT (wex).toT ?_ ⟨⟨rfl, rfl, rfl, trivial⟩, trivial⟩); refine stp ?_; try with_reducible exact True.intro
              refine brF (by simp; omega) ?_
              refine stp ?_; try with_reducible exact True.intro
              (first | refine .inl ⟨_, _, wmI, ⟨⟨rfl, rfl, rfl, trivial⟩, trivial⟩, ?_⟩ | refine useT (wmI).toT ?_ ⟨⟨rfl, rfl, rfl, trivial⟩, trivial⟩); refine stp ?_; try with_reducible exact True.intro
              (first | refine .inl ⟨_, _, wpI, ⟨⟨rfl, rfl, rfl, trivial⟩, trivial⟩, ?_⟩ | refine useT (wpI).toT ?_ ⟨⟨rfl, rfl, rfl, trivial⟩, trivial⟩); refine stp ?_; try with_reducible exact True.intro
              refine brF (by simp; omega) ?_
              refine stp ?_; try with_reducible exact True.intro
              cases jk
              · refine stp ?_; try with_reducible exact True.intro
              · have e5 := hja rfl
                refine stp ?_; try with_reducible exact True.intro
                (first | refine .inl ⟨_, _, wej, ⟨⟨rfl, rfl, rfl, trivial⟩, trivial⟩, ?_⟩ | refine useT (wej).toT ?_ ⟨⟨rfl, rfl, rfl, trivial⟩, trivial⟩); refine stp ?_; try with_reducible exact True.intro
                (first | refine .inl ⟨_, _, wex, ⟨⟨rfl, rfl, rfl, trivial⟩, trivial⟩, ?_⟩ | refine useT (wex).toT ?_ ⟨⟨rfl, rfl, rfl, trivial⟩, trivial⟩); refine stp ?_; try with_reducible exact True.intro
                (first | refine .inl ⟨_, _, wey, ⟨⟨rfl, rfl, rfl, trivial⟩, trivial⟩, ?_⟩ | refine useT (wey).toT ?_ ⟨⟨rfl, rfl, rfl, trivial⟩, trivial⟩); refine stp ?_; try with_reducible exact True.intro
                simp [e5]
            · refine stp ?_; try with_reducible exact True.intro
              cases jk
              · refine stp ?_; try with_reducible exact True.intro
              · have e5 := hja rfl
                refine stp ?_; try with_reducible exact True.intro
                (first | refine .inl ⟨_, _, wej, ⟨⟨rfl, rfl, rfl, trivial⟩, trivial⟩, ?_⟩ | refine useT (wej).toT ?_ ⟨⟨rfl, rfl, rfl, trivial⟩, trivial⟩); refine stp ?_; try with_reducible exact True.intro
                (first | refine .inl ⟨_, _, wex, ⟨⟨rfl, rfl, rfl, trivial⟩, trivial⟩, ?_⟩ | refine useT (wex).toT ?_ ⟨⟨rfl, rfl, rfl, trivial⟩, trivial⟩); refine stp ?_; try with_reducible exact True.intro
                (first | refine .inl ⟨_, _, wey, ⟨⟨rfl, rfl, rfl, trivial⟩, trivial⟩, ?_⟩ | refine useT (wey).toT ?_ ⟨⟨rfl, rfl, rfl, trivial⟩, trivial⟩); refine stp ?_; try with_reducible exact True.intro
                simp [e5]
          · refine stp ?_; try with_reducible exact True.intro
            cases jk
            · refine stp ?_; try with_reducible exact True.intro
            · have e5 := hja rfl
              refine stp ?_; try with_reducible exact True.intro
              (first | refine .inl ⟨_, _, wej, ⟨⟨rfl, rfl, rfl, trivial⟩, trivial⟩, ?_⟩ | refine useT (wej).toT ?_ ⟨⟨rfl, rfl, rfl, trivial⟩, trivial⟩); refine stp ?_; try with_reducible exact True.intro
              (first | refine .inl ⟨_, _, wex, ⟨⟨rfl, rfl, rfl, trivial⟩, trivial⟩, ?_⟩ | refine useT (wex).toT ?_ ⟨⟨rfl, rfl, rfl, trivial⟩, trivial⟩); refine stp ?_; try with_reducible exact True.intro
              (first | refine .inl ⟨_, _, wey, ⟨⟨rfl, rfl, rfl, trivial⟩, trivial⟩, ?_⟩ | refine useT (wey).toT ?_ ⟨⟨rfl, rfl, rfl, trivial⟩, trivial⟩); refine stp ?_; try with_reducible exact True.intro
              simp [e5]
  · refine stp ?_; try with_reducible exact True.intro
    refine ⟨Nat, fun k => k = 0, fun k => 1 - k, fun k => [(3, .pcell 0 0), (8, .nil .unit), (14, .pcell 1 0), (15, .pcell 2 0), (16, .pcell 3 0), (17, .b jk), (20, .i n), (21, .nil .unit), (24, .i 0)], fun k => [.vars [.i xh, .i xc, .i xb], .vars [.i xh, .i xc, .i xb], .vars [.i yh, .i yc, .i yb], .vars [.i j1, .i j2, .i j3]], ⟨0, ⟨.frz [], [0, 6, 7, 8], ⟨rfl, rfl, rfl, rfl, rfl, rfl, rfl, rfl, rfl, trivial⟩, ⟨rfl, rfl, rfl, rfl, trivial⟩, by decide, rfl, rfl, rfl⟩, rfl⟩, fun k hk => ?_⟩
    refine stp ?_; try with_reducible exact True.intro
    · refine ⟨Nat, fun k => k = 0, fun k => 1 - k, fun k => [(3, .pcell 0 0), (14, .pcell 1 0), (15, .pcell 2 0), (16, .pcell 3 0), (17, .b jk), (20, .i n), (21, .nil .unit), (27, .i 0)], fun k => [.vars [.i xh, .i xc, .i xb], .vars [.i xh, .i xc, .i xb], .vars [.i yh, .i yc, .i yb], .vars [.i j1, .i j2, .i j3]], ⟨0, ⟨.frz [], [0, 1, 2, 3], ⟨rfl, rfl, rfl, rfl, rfl, rfl, rfl, rfl, trivial⟩, ⟨rfl, rfl, rfl, rfl, trivial⟩, by decide, rfl, rfl, rfl⟩, rfl⟩, fun k hk => ?_⟩
      refine stp ?_; try with_reducible exact True.intro
      · cases si
        · refine useT wis.toT ?_ ⟨⟨rfl, rfl, rfl, trivial⟩, trivial⟩
          refine stp ?_; try with_reducible exact True.intro
          cases jk
          · refine stp ?_; try with_reducible exact True.intro
          · have e5 := hja rfl
            refine stp ?_; try with_reducible exact True.intro
            (first | refine .inl ⟨_, _, wej, ⟨⟨rfl, rfl, rfl, trivial⟩, trivial⟩, ?_⟩ | refine useT (wej).toT ?_ ⟨⟨rfl, rfl, rfl, trivial⟩, trivial⟩); refine stp ?_; try with_reducible exact True.intro
            (first | refine .inl ⟨_, _, wex, ⟨⟨rfl, rfl, rfl, trivial⟩, trivial⟩, ?_⟩ | refine useT (wex).toT ?_ ⟨⟨rfl, rfl, rfl, trivial⟩, trivial⟩); refine stp ?_; try with_reducible exact True.intro
            (first | refine .inl ⟨_, _, wey, ⟨⟨rfl, rfl, rfl, trivial⟩, trivial⟩, ?_⟩ | refine useT (wey).toT ?_ ⟨⟨rfl, rfl, rfl, trivial⟩, trivial⟩); refine stp ?_; try with_reducible exact True.intro
            simp [e5]
        · refine useT wis.toT ?_ ⟨⟨rfl, rfl, rfl, trivial⟩, trivial⟩
          refine stp ?_; try with_reducible exact True.intro
          refine Br.mk (fun hxc => ?_) (fun hxc => ?_) <;> simp only [decide_eq_true_eq, decide_eq_false_iff_not, ne_eq, Decidable.not_not, Bool.not_eq_eq_eq_not, Bool.not_true, Bool.not_false] at hxc
          · refine stp ?_; try with_reducible exact True.intro
            (first | refine .inl ⟨_, _, wex, ⟨⟨rfl, rfl, rfl, trivial⟩, trivial⟩, ?_⟩ | refine useT (wex).toT ?_ ⟨⟨rfl, rfl, rfl, trivial⟩, trivial⟩); refine stp ?_; try with_reducible exact True.intro
            refine Br.mk (fun hneg => ?_) (fun hneg => ?_) <;> simp only [decide_eq_true_eq, decide_eq_false_iff_not, ne_eq, Decidable.not_not, Bool.not_eq_eq_eq_not, Bool.not_true, Bool.not_false] at hneg
            · obtain ⟨hp1, hp2⟩ := hpc rfl hxc hneg
              refine stp ?_; try with_reducible exact True.intro
              (first | refine .inl ⟨_, _, wpI, ⟨⟨rfl, rfl, rfl, trivial⟩, trivial⟩, ?_⟩ | refine useT (wpI).toT ?_ ⟨⟨rfl, rfl, rfl, trivial⟩, trivial⟩); refine stp ?_; try with_reducible exact True.intro
              (first | refine .inl ⟨_, _, wex, ⟨⟨rfl, rfl, rfl, trivial⟩, trivial⟩, ?_⟩ | refine useT (wex).toT ?_ ⟨⟨rfl, rfl, rfl, trivial⟩, trivial⟩); refine stp ?_; try with_reducible exact True.intro
              refine brF (by simp; omega) ?_
              refine stp ?_; try with_reducible exact True.intro
              (first | refine .inl ⟨_, _, wmI, ⟨⟨rfl, rfl, rfl, trivial⟩, trivial⟩, ?_⟩ | refine useT (wmI).toT ?_ ⟨⟨rfl, rfl, rfl, trivial⟩, trivial⟩); refine stp ?_; try with_reducible exact True.intro
              (first | refine .inl ⟨_, _, wpI, ⟨⟨rfl, rfl, rfl, trivial⟩, trivial⟩, ?_⟩ | refine useT (wpI).toT ?_ ⟨⟨rfl, rfl, rfl, trivial⟩, trivial⟩); refine stp ?_; try with_reducible exact True.intro
              refine brF (by simp; omega) ?_
              refine stp ?_; try with_reducible exact True.intro
              cases jk
              · refine stp ?_; try with_reducible exact True.intro
              · have e5 := hja rfl
                refine stp ?_; try with_reducible exact True.intro
                (first | refine .inl ⟨_, _, wej, ⟨⟨rfl, rfl, rfl, trivial⟩, trivial⟩, ?_⟩ | refine useT (wej).toT ?_ ⟨⟨rfl, rfl, rfl, trivial⟩, trivial⟩); refine stp ?_; try with_reducible exact True.intro
                (first | refine .inl ⟨_, _, wex, ⟨⟨rfl, rfl, rfl, trivial⟩, trivial⟩, ?_⟩ | refine useT (wex).toT ?_ ⟨⟨rfl, rfl, rfl, trivial⟩, trivial⟩); refine stp ?_; try with_reducible exact True.intro
                (first | refine .inl ⟨_, _, wey, ⟨⟨rfl, rfl, rfl, trivial⟩, trivial⟩, ?_⟩ | refine useT (wey).toT ?_ ⟨⟨rfl, rfl, rfl, trivial⟩, trivial⟩); refine stp ?_; try with_reducible exact True.intro
                simp [e5]
            · refine stp ?_; try with_reducible exact True.intro
              cases jk
              · refine stp ?_; try with_reducible exact True.intro
              · have e5 := hja rfl
                refine stp ?_; try with_reducible exact True.intro
                (first | refine .inl ⟨_, _, wej, ⟨⟨rfl, rfl, rfl, trivial⟩, trivial⟩, ?_⟩ | refine useT (wej).toT ?_ ⟨⟨rfl, rfl, rfl, trivial⟩, trivial⟩); refine stp ?_; try with_reducible exact True.intro
                (first | refine .inl ⟨_, _, wex, ⟨⟨rfl, rfl, rfl, trivial⟩, trivial⟩, ?_⟩ | refine useT (wex).toT ?_ ⟨⟨rfl, rfl, rfl, trivial⟩, trivial⟩); refine stp ?_; try with_reducible exact True.intro
                (first | refine .inl ⟨_, _, wey, ⟨⟨rfl, rfl, rfl, trivial⟩, trivial⟩, ?_⟩ | refine useT (wey).toT ?_ ⟨⟨rfl, rfl, rfl, trivial⟩, trivial⟩); refine stp ?_; try with_reducible exact True.intro
                simp [e5]
          · refine stp ?_; try with_reducible exact True.intro
            cases jk
            · refine stp ?_; try with_reducible exact True.intro
            · have e5 := hja rfl
              refine stp ?_; try with_reducible exact True.intro
              (first | refine .inl ⟨_, _, wej, ⟨⟨rfl, rfl, rfl, trivial⟩, trivial⟩, ?_⟩ | refine useT (wej).toT ?_ ⟨⟨rfl, rfl, rfl, trivial⟩, trivial⟩); refine stp ?_; try with_reducible exact True.intro
              (first | refine .inl ⟨_, _, wex, ⟨⟨rfl, rfl, rfl, trivial⟩, trivial⟩, ?_⟩ | refine useT (wex).toT ?_ ⟨⟨rfl, rfl, rfl, trivial⟩, trivial⟩); refine stp ?_; try with_reducible exact True.intro
              (first | refine .inl ⟨_, _, wey, ⟨⟨rfl, rfl, rfl, trivial⟩, trivial⟩, ?_⟩ | refine useT (wey).toT ?_ ⟨⟨rfl, rfl, rfl, trivial⟩, trivial⟩); refine stp ?_; try with_reducible exact True.intro
              simp [e5]
end Go.Proofs.YtaoepnmhflmhhaaTv
end
section
open Go Go.Proofs.YtaoepnmhflmhhaaVe Go.Proofs.YtaoepnmhflmhhaaTv Go.Proofs
namespace Go.Proofs.YtaoepnmhflmhhaaTv
set_option maxRecDepth 8000
set_option maxHeartbeats 2000000
theorem FnCuts (code : List Int) (hc : (code.length : Int) ≤ 140737488355328) : ConS Try.prog 7 [.val (.list (.int .u8)) code] (.b true) := by
  by_cases hbig : (code.length : Int) > 1048576
  · refine conS_of hmix hTab Try.func7 rfl rfl (by kernel_rfl) (by show 1 ≤ Try.f7.ntmps; decide) rfl ?_
    refine stp ?_; try with_reducible exact True.intro
    refine useT ((bigFC code hc).toT) ?_; try with_reducible exact True.intro
    rw [decide_eq_true hbig]
    refine stp ?_; try with_reducible exact True.intro
  · cases hP : isP (d21 code (s0 code)).1 with
    | true =>
      by_cases hN : -10 ≤ bl code 15 (s0 code) - 11 ∧ bl code 15 (s0 code) - 11 ≤ 2
      · exact FnCutsA code (by omega) hP hN
      · exact FnCutsB code (by omega) hP hN
    | false =>
      by_cases hN : -10 ≤ bl code 15 (s0 code) - 11 ∧ bl code 15 (s0 code) - 11 ≤ 2
      · exact FnCutsC code (by omega) hP hN
      · exact FnCutsD code (by omega) hP hN
end Go.Proofs.YtaoepnmhflmhhaaTv
end
