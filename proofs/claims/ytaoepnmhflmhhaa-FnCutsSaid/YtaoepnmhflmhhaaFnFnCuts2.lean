/- What functions of the program give: each contract holds for all arguments that its own sentence names. -/
import Derived.Test.YtaoepnmhflmhhaaFnFnCuts1
set_option linter.unusedVariables false
set_option linter.unusedSimpArgs false
section
open Go Go.Proofs.YtaoepnmhflmhhaaVe Go.Proofs.YtaoepnmhflmhhaaTv Go.Proofs
namespace Go.Proofs.YtaoepnmhflmhhaaTv
set_option maxRecDepth 8000
set_option maxHeartbeats 2000000
def mkQ (h c b : Nat) : Sq := ((h : Int), (c : Int), (b : Int), ())
def sqE (x : Sq) : Int := eul (x.1, x.2.1, x.2.2.1)
/-- The surfaces with n for Euler number: over h, over c, over b. -/
def f3 (n : Int) (b c k : Nat) : List Sq := ((List.range k).map fun h => mkQ h c b).filter fun x => decide (sqE x = n)
def f2 (n : Int) (b k : Nat) : List Sq := (List.range k).flatMap fun c => f3 n b c 21
def f1 (n : Int) (k : Nat) : List Sq := (List.range k).flatMap fun b => f2 n b 21
theorem f3_succ (n : Int) (b c k : Nat) : f3 n b c (k + 1) = f3 n b c k ++ (if sqE (mkQ k c b) = n then [mkQ k c b] else []) := by
  unfold f3
  rw [List.range_succ, List.map_append, List.filter_append]
  congr 1
  simp only [List.map_cons, List.map_nil, List.filter_cons, List.filter_nil, decide_eq_true_eq]
theorem f2_succ (n : Int) (b k : Nat) : f2 n b (k + 1) = f2 n b k ++ f3 n b k 21 := by
  unfold f2
  rw [List.range_succ, List.flatMap_append]
  simp
theorem f1_succ (n : Int) (k : Nat) : f1 n (k + 1) = f1 n k ++ f2 n k 21 := by
  unfold f1
  rw [List.range_succ, List.flatMap_append]
  simp
theorem f3_len (n : Int) (b c k : Nat) : (f3 n b c k).length ≤ k := by
  unfold f3
  refine Nat.le_trans (List.length_filter_le _ _) ?_
  simp
theorem f2_len (n : Int) (b : Nat) : ∀ k, (f2 n b k).length ≤ 21 * k
  | 0 => by simp [f2]
  | k + 1 => by
    rw [f2_succ, List.length_append]
    have := f2_len n b k
    have := f3_len n b k 21
    omega
theorem f1_len (n : Int) : ∀ k, (f1 n k).length ≤ 441 * k
  | 0 => by simp [f1]
  | k + 1 => by
    rw [f1_succ, List.length_append]
    have := f1_len n k
    have := f2_len n k 21
    omega
theorem SurfacesWithS (n : Int) : ConT Try.prog 40 [.i n] (.own 0 0 (if -10 ≤ n ∧ n ≤ 2 then f1 n 21 else []).length) [.arr sqT (if -10 ≤ n ∧ n ≤ 2 then f1 n 21 else []) true] := by
  refine conT_of hmix hTab Try.func40 rfl rfl (by kernel_rfl) (by show 1 ≤ Try.f40.ntmps; decide) ?_
  have w := l1In n (-10) 2
  refine stp ?_; try with_reducible exact True.intro
  refine ⟨Nat, fun b => b ≤ 21 ∧ ((-10 ≤ n ∧ n ≤ 2) ∨ b = 0), fun b => 21 - b, fun b => [(0, .i n), (3, .own 0 0 (f1 n b).length), (4, .i b)], fun b => [.arr sqT (f1 n b) true], ⟨0, ⟨.frz [], [0], ⟨rfl, rfl, rfl, trivial⟩, ⟨rfl, trivial⟩, by decide, rfl, rfl, rfl⟩, by omega⟩, fun b hi => ?_⟩
  obtain ⟨h1, h2⟩ := hi
  refine stp ?_; try with_reducible exact True.intro
  refine Br.mk (fun h3 => ?_) (fun h3 => ?_) <;> simp only [decide_eq_true_eq, decide_eq_false_iff_not, ne_eq, Decidable.not_not, Bool.not_eq_eq_eq_not, Bool.not_true, Bool.not_false] at h3
  · refine stp ?_; try with_reducible exact True.intro
    refine useT (w.toT) ?_; try with_reducible exact True.intro
    by_cases hr : -10 ≤ n ∧ n ≤ 2
    · rw [decide_eq_true hr]
      refine stp ?_; try with_reducible exact True.intro
      refine ⟨Nat, fun c => c ≤ 21, fun c => 21 - c, fun c => [(0, .i n), (3, .own 0 0 (f1 n b ++ f2 n b c).length), (4, .i b), (5, .i c)], fun c => [.arr sqT (f1 n b ++ f2 n b c) true], ⟨0, by simpa [f2] using ⟨.frz [], [0], ⟨rfl, rfl, rfl, rfl, trivial⟩, ⟨rfl, trivial⟩, by decide, rfl, rfl, rfl⟩, by omega⟩, fun c h4 => ?_⟩
      refine stp ?_; try with_reducible exact True.intro
      refine Br.mk (fun h5 => ?_) (fun h5 => ?_) <;> simp only [decide_eq_true_eq, decide_eq_false_iff_not, ne_eq, Decidable.not_not, Bool.not_eq_eq_eq_not, Bool.not_true, Bool.not_false] at h5
      · refine stp ?_; try with_reducible exact True.intro
        refine ⟨Nat, fun h => h ≤ 21, fun h => 21 - h, fun h => [(0, .i n), (3, .own 0 0 (f1 n b ++ f2 n b c ++ f3 n b c h).length), (4, .i b), (5, .i c), (6, .i h)], fun h => [.arr sqT (f1 n b ++ f2 n b c ++ f3 n b c h) true], ⟨0, by simpa [f3] using ⟨.frz [], [0], ⟨rfl, rfl, rfl, rfl, rfl, trivial⟩, ⟨rfl, trivial⟩, by decide, rfl, rfl, rfl⟩, by omega⟩, fun h h6 => ?_⟩
        refine stp ?_; try with_reducible exact True.intro
        refine Br.mk (fun h7 => ?_) (fun h7 => ?_) <;> simp only [decide_eq_true_eq, decide_eq_false_iff_not, ne_eq, Decidable.not_not, Bool.not_eq_eq_eq_not, Bool.not_true, Bool.not_false] at h7
        · have we := EulerS ((h : Int), (c : Int), (b : Int))
          have L1 := f1_len n b
          have L2 := f2_len n b c
          have L3 := f3_len n b c h
          have L : ((f1 n b ++ f2 n b c ++ f3 n b c h).length : Int) ≤ 10000 := by simp only [List.length_append]; omega
          refine stp ?_; try with_reducible exact True.intro
          refine useT we.toT ?_ ⟨⟨rfl, rfl, rfl, trivial⟩, trivial⟩
          by_cases hq : eul ((h : Int), (c : Int), (b : Int)) = n
          · rw [decide_eq_true hq]
            refine stp ?_; try with_reducible exact True.intro
            have e3 : f3 n b c (h + 1) = f3 n b c h ++ [mkQ h c b] := by rw [f3_succ, if_pos (show sqE (mkQ h c b) = n from hq)]
            refine ⟨h + 1, ?_, by omega, by dsimp only; omega⟩
            dsimp only
            rw [e3, ← List.append_assoc, show (f1 n b ++ f2 n b c ++ f3 n b c h ++ [mkQ h c b]).length = (f1 n b ++ f2 n b c ++ f3 n b c h).length + 1 by simp only [List.length_append, List.length_cons, List.length_nil]]
            refine ⟨.frz [], [3], ⟨rfl, rfl, rfl, rfl, rfl, trivial⟩, ⟨?_, trivial⟩, by decide, rfl, rfl, rfl⟩
            (conv => lhs; whnf)
            simp [Obj.ren, mkQ]
            rw [List.take_of_length_le (by simp only [List.length_append]; omega)]
            simp only [List.append_assoc]
          · rw [decide_eq_false hq]
            refine stp ?_; try with_reducible exact True.intro
            have e3 : f3 n b c (h + 1) = f3 n b c h := by rw [f3_succ, if_neg (show ¬ sqE (mkQ h c b) = n from hq), List.append_nil]
            refine ⟨h + 1, ?_, by omega, by dsimp only; omega⟩
            dsimp only
            rw [e3]
            exact ⟨.frz [], [0], ⟨rfl, rfl, rfl, rfl, rfl, trivial⟩, ⟨rfl, trivial⟩, by decide, rfl, rfl, rfl⟩
        · refine stp ?_; try with_reducible exact True.intro
          have e7 : h = 21 := by omega
          subst e7
          refine ⟨c + 1, ?_, by omega, by dsimp only; omega⟩
          dsimp only
          rw [f2_succ, ← List.append_assoc]
          exact ⟨.frz [], [0], ⟨rfl, rfl, rfl, rfl, trivial⟩, ⟨rfl, trivial⟩, by decide, rfl, rfl, rfl⟩
      · refine stp ?_; try with_reducible exact True.intro
        have e5 : c = 21 := by omega
        subst e5
        refine ⟨b + 1, ?_, by omega, by dsimp only; omega⟩
        dsimp only
        rw [f1_succ]
        exact ⟨.frz [], [0], ⟨rfl, rfl, rfl, trivial⟩, ⟨rfl, trivial⟩, by decide, rfl, rfl, rfl⟩
    · have e0 : b = 0 := h2.resolve_left hr
      subst e0
      rw [decide_eq_false hr, if_neg hr]
      refine stp ?_; try with_reducible exact True.intro
      exact ⟨.frz [], [0], ⟨rfl, trivial⟩, ⟨rfl, trivial⟩, by decide, rfl, rfl, rfl⟩
  · have e0 : b = 21 := by omega
    subst e0
    have hr : -10 ≤ n ∧ n ≤ 2 := h2.resolve_right (by decide)
    rw [if_pos hr]
    refine stp ?_; try with_reducible exact True.intro
    exact ⟨.frz [], [0], ⟨rfl, trivial⟩, ⟨rfl, trivial⟩, by decide, rfl, rfl, rfl⟩
end Go.Proofs.YtaoepnmhflmhhaaTv
end
section
open Go Go.Proofs.YtaoepnmhflmhhaaVe Go.Proofs.YtaoepnmhflmhhaaTv Go.Proofs
namespace Go.Proofs.YtaoepnmhflmhhaaTv
set_option maxRecDepth 8000
set_option maxHeartbeats 2000000
theorem SurfacesWithI (n : Int) (hr : -10 ≤ n ∧ n ≤ 2) : ConT Try.prog 38 [.i n] (.own 0 0 (f1 n 21).length) [.arr sqT (f1 n 21) true] := by
  refine conT_of hmix hTab Try.func38 rfl rfl (by kernel_rfl) (by show 1 ≤ Try.f38.ntmps; decide) ?_
  have w := within n (-10) 2
  rw [decide_eq_true hr] at w
  refine stp ?_; try with_reducible exact True.intro
  refine useT (w.toT) ?_; try with_reducible exact True.intro
  refine ⟨Nat, fun b => b ≤ 21, fun b => 21 - b, fun b => [(0, .i n), (3, .own 0 0 (f1 n b).length), (12, .i b)], fun b => [.arr sqT (f1 n b) true], ⟨0, ⟨.frz [], [0], ⟨rfl, rfl, rfl, trivial⟩, ⟨rfl, trivial⟩, by decide, rfl, rfl, rfl⟩, by omega⟩, fun b h1 => ?_⟩
  refine stp ?_; try with_reducible exact True.intro
  refine Br.mk (fun h3 => ?_) (fun h3 => ?_) <;> simp only [decide_eq_true_eq, decide_eq_false_iff_not, ne_eq, Decidable.not_not, Bool.not_eq_eq_eq_not, Bool.not_true, Bool.not_false] at h3
  · refine stp ?_; try with_reducible exact True.intro
    refine ⟨Nat, fun c => c ≤ 21, fun c => 21 - c, fun c => [(0, .i n), (3, .own 0 0 (f1 n b ++ f2 n b c).length), (4, .i b), (12, .i b), (15, .i c)], fun c => [.arr sqT (f1 n b ++ f2 n b c) true], ⟨0, by simpa [f2] using ⟨.frz [], [0], ⟨rfl, rfl, rfl, rfl, rfl, trivial⟩, ⟨rfl, trivial⟩, by decide, rfl, rfl, rfl⟩, by omega⟩, fun c h4 => ?_⟩
    refine stp ?_; try with_reducible exact True.intro
    refine Br.mk (fun h5 => ?_) (fun h5 => ?_) <;> simp only [decide_eq_true_eq, decide_eq_false_iff_not, ne_eq, Decidable.not_not, Bool.not_eq_eq_eq_not, Bool.not_true, Bool.not_false] at h5
    · refine stp ?_; try with_reducible exact True.intro
      refine ⟨Nat, fun h => h ≤ 21, fun h => 21 - h, fun h => [(0, .i n), (3, .own 0 0 (f1 n b ++ f2 n b c ++ f3 n b c h).length), (4, .i b), (5, .i c), (12, .i b), (15, .i c), (18, .i h)], fun h => [.arr sqT (f1 n b ++ f2 n b c ++ f3 n b c h) true], ⟨0, by simpa [f3] using ⟨.frz [], [0], ⟨rfl, rfl, rfl, rfl, rfl, rfl, rfl, trivial⟩, ⟨rfl, trivial⟩, by decide, rfl, rfl, rfl⟩, by omega⟩, fun h h6 => ?_⟩
      refine stp ?_; try with_reducible exact True.intro
      refine Br.mk (fun h7 => ?_) (fun h7 => ?_) <;> simp only [decide_eq_true_eq, decide_eq_false_iff_not, ne_eq, Decidable.not_not, Bool.not_eq_eq_eq_not, Bool.not_true, Bool.not_false] at h7
      · have we := EulerI ((h : Int), (c : Int), (b : Int))
        have wi := IsSurfaceI ((h : Int), (c : Int), (b : Int))
        have L1 := f1_len n b
        have L2 := f2_len n b c
        have L3 := f3_len n b c h
        have L : ((f1 n b ++ f2 n b c ++ f3 n b c h).length : Int) ≤ 10000 := by simp only [List.length_append]; omega
        refine stp ?_; try with_reducible exact True.intro
        refine useT wi.toT ?_ ⟨⟨rfl, rfl, rfl, trivial⟩, trivial⟩
        cases hi : isS ((h : Int), (c : Int), (b : Int)) with
        | false =>
          refine stp ?_; try with_reducible exact True.intro
          have hq : ¬ sqE (mkQ h c b) = n := by
            show ¬ eul _ = n
            unfold eul
            rw [if_neg (by simp [mkQ, hi])]
            omega
          have e3 : f3 n b c (h + 1) = f3 n b c h := by rw [f3_succ, if_neg hq, List.append_nil]
          refine ⟨h + 1, ?_, by omega, by dsimp only; omega⟩
          dsimp only
          rw [e3]
          exact ⟨.frz [], [0], ⟨rfl, rfl, rfl, rfl, rfl, rfl, rfl, trivial⟩, ⟨rfl, trivial⟩, by decide, rfl, rfl, rfl⟩
        | true =>
          refine stp ?_; try with_reducible exact True.intro
          refine useT we.toT ?_ ⟨⟨rfl, rfl, rfl, trivial⟩, trivial⟩
          by_cases hq : eul ((h : Int), (c : Int), (b : Int)) = n
          · rw [decide_eq_true hq]
            refine stp ?_; try with_reducible exact True.intro
            have e3 : f3 n b c (h + 1) = f3 n b c h ++ [mkQ h c b] := by rw [f3_succ, if_pos (show sqE (mkQ h c b) = n from hq)]
            refine ⟨h + 1, ?_, by omega, by dsimp only; omega⟩
            dsimp only
            rw [e3, ← List.append_assoc, show (f1 n b ++ f2 n b c ++ f3 n b c h ++ [mkQ h c b]).length = (f1 n b ++ f2 n b c ++ f3 n b c h).length + 1 by simp only [List.length_append, List.length_cons, List.length_nil]]
            refine ⟨.frz [], [3], ⟨rfl, rfl, rfl, rfl, rfl, rfl, rfl, trivial⟩, ⟨?_, trivial⟩, by decide, rfl, rfl, rfl⟩
            (conv => lhs; whnf)
            simp [Obj.ren, mkQ]
            rw [List.take_of_length_le (by simp only [List.length_append]; omega)]
            simp only [List.append_assoc]
          · rw [decide_eq_false hq]
            refine stp ?_; try with_reducible exact True.intro
            have e3 : f3 n b c (h + 1) = f3 n b c h := by rw [f3_succ, if_neg (show ¬ sqE (mkQ h c b) = n from hq), List.append_nil]
            refine ⟨h + 1, ?_, by omega, by dsimp only; omega⟩
            dsimp only
            rw [e3]
            exact ⟨.frz [], [0], ⟨rfl, rfl, rfl, rfl, rfl, rfl, rfl, trivial⟩, ⟨rfl, trivial⟩, by decide, rfl, rfl, rfl⟩
      · refine stp ?_; try with_reducible exact True.intro
        have e7 : h = 21 := by omega
        subst e7
        refine ⟨c + 1, ?_, by omega, by dsimp only; omega⟩
        dsimp only
        rw [f2_succ, ← List.append_assoc]
        exact ⟨.frz [], [0], ⟨rfl, rfl, rfl, rfl, rfl, trivial⟩, ⟨rfl, trivial⟩, by decide, rfl, rfl, rfl⟩
    · refine stp ?_; try with_reducible exact True.intro
      have e5 : c = 21 := by omega
      subst e5
      refine ⟨b + 1, ?_, by omega, by dsimp only; omega⟩
      dsimp only
      rw [f1_succ]
      exact ⟨.frz [], [0], ⟨rfl, rfl, rfl, trivial⟩, ⟨rfl, trivial⟩, by decide, rfl, rfl, rfl⟩
  · have e0 : b = 21 := by omega
    subst e0
    refine stp ?_; try with_reducible exact True.intro
    exact ⟨.frz [], [0], ⟨rfl, trivial⟩, ⟨rfl, trivial⟩, by decide, rfl, rfl, rfl⟩
theorem SurfacesWithN (n : Int) (hr : ¬ (-10 ≤ n ∧ n ≤ 2)) : ConT Try.prog 38 [.i n] (.nil .unit) [] := by
  refine conT_of hmix hTab Try.func38 rfl rfl (by kernel_rfl) (by show 1 ≤ Try.f38.ntmps; decide) ?_
  have w := within n (-10) 2
  rw [decide_eq_false hr] at w
  refine stp ?_; try with_reducible exact True.intro
  refine useT (w.toT) ?_; try with_reducible exact True.intro
  exact ⟨.frz [], [], ⟨rfl, trivial⟩, trivial, by decide, rfl, rfl, rfl⟩
end Go.Proofs.YtaoepnmhflmhhaaTv
end
section
open Go Go.Proofs.YtaoepnmhflmhhaaVe Go.Proofs.YtaoepnmhflmhhaaTv Go.Proofs
namespace Go.Proofs.YtaoepnmhflmhhaaTv
set_option maxRecDepth 8000
set_option maxHeartbeats 2000000
theorem bigFC (code : List Int) (hc : (code.length : Int) ≤ 140737488355328) : ConS Try.prog 26 [.val (.list (.int .u8)) code] (.b (decide ((code.length : Int) > 1048576))) := by
  refine conS_of hmix hTab Try.func26 rfl rfl (by kernel_rfl) (by show 1 ≤ Try.f26.ntmps; decide) rfl ?_
  refine stp ?_; try with_reducible exact True.intro
end Go.Proofs.YtaoepnmhflmhhaaTv
end
section
open Go Go.Proofs.YtaoepnmhflmhhaaVe Go.Proofs.YtaoepnmhflmhhaaTv Go.Proofs
namespace Go.Proofs.YtaoepnmhflmhhaaTv
set_option maxRecDepth 8000
set_option maxHeartbeats 2000000
def sq (x : Sf) : Sq := (x.1, x.2.1, x.2.2, ())
def onD (h b : Nat) : Sf := ((h : Int), 0, (b : Int) + 1)
def twD (x : Sf) (h b : Nat) : Sf := (x.1 - (h : Int), 0, x.2.2 - (b : Int) + 1)
def prD (x : Sf) (h b : Nat) : List Sq := [sq (onD h b), sq (twD x h b)]
def orD (x : Sf) (h b : Nat) : Bool := decide ((h : Int) < x.1 - h) || (decide ((h : Int) = x.1 - h) && decide ((b : Int) + 1 ≤ x.2.2 - b + 1))
def okD (x : Sf) (h b : Nat) : Bool := orD x h b && (isS (onD h b) && (isS (twD x h b) && (!isFl (onD h b) && !isFl (twD x h b))))
/-- The pairs over b, over h. -/
def d2 (x : Sf) (h k : Nat) : List (List Sq) := ((List.range k).filter (okD x h)).map (prD x h)
def d1 (x : Sf) (k : Nat) : List (List Sq) := (List.range k).flatMap fun h => d2 x h (x.2.2.toNat + 1)
theorem d2_succ (x : Sf) (h k : Nat) : d2 x h (k + 1) = d2 x h k ++ (if okD x h k = true then [prD x h k] else []) := by
  unfold d2
  rw [List.range_succ, List.filter_append, List.map_append]
  congr 1
  simp only [List.filter_cons, List.filter_nil]
  split <;> rfl
theorem d1_succ (x : Sf) (k : Nat) : d1 x (k + 1) = d1 x k ++ d2 x k (x.2.2.toNat + 1) := by
  unfold d1
  rw [List.range_succ, List.flatMap_append]
  simp
theorem d2_len (x : Sf) (h k : Nat) : (d2 x h k).length ≤ k := by
  unfold d2
  rw [List.length_map]
  refine Nat.le_trans (List.length_filter_le _ _) ?_
  simp
theorem d1_len (x : Sf) : ∀ k, (d1 x k).length ≤ (x.2.2.toNat + 1) * k
  | 0 => by simp [d1]
  | k + 1 => by
    rw [d1_succ, List.length_append, Nat.mul_succ]
    have := d1_len x k
    have := d2_len x k (x.2.2.toNat + 1)
    omega
theorem d2_mem {x : Sf} {h k : Nat} {l : List Sq} (hl : l ∈ d2 x h k) : ∃ b, b < k ∧ okD x h b = true ∧ l = prD x h b := by
  unfold d2 at hl
  obtain ⟨b, hb, rfl⟩ := List.mem_map.1 hl
  obtain ⟨h1, h2⟩ := List.mem_filter.1 hb
  exact ⟨b, List.mem_range.1 h1, h2, rfl⟩
theorem d1_mem {x : Sf} {k : Nat} {l : List Sq} (hl : l ∈ d1 x k) : ∃ h b, h < k ∧ b < x.2.2.toNat + 1 ∧ okD x h b = true ∧ l = prD x h b := by
  unfold d1 at hl
  obtain ⟨h, hh, hm⟩ := List.mem_flatMap.1 hl
  obtain ⟨b, hb, hc, he⟩ := d2_mem hm
  exact ⟨h, b, List.mem_range.1 hh, hb, hc, he⟩
end Go.Proofs.YtaoepnmhflmhhaaTv
end
section
open Go Go.Proofs.YtaoepnmhflmhhaaVe Go.Proofs.YtaoepnmhflmhhaaTv Go.Proofs
namespace Go.Proofs.YtaoepnmhflmhhaaTv
set_option maxRecDepth 8000
set_option maxHeartbeats 2000000
theorem DividingCutsI (x : Sf) (hp : isP x = true) : ConT Try.prog 30 [sfV x] (.own 0 0 (d1 x (x.1.toNat + 1)).length) [.arr (.list sqT) (d1 x (x.1.toNat + 1)) false] := by
  have w := isPlain x
  have hb := isP_rng hp
  have L1 := d1_len x
  have L2 := d2_len x
  obtain ⟨hh, c, bb⟩ := x
  obtain ⟨⟨q1, q2⟩, q3, q4, q5⟩ := hb
  dsimp only at q1 q2 q3 q4 q5
  subst q3
  rw [hp] at w
  refine conT_of hmix hTab Try.func30 rfl rfl (by kernel_rfl) (by show 1 ≤ Try.f30.ntmps; decide) ?_
  dsimp only [sfV] at w ⊢
  refine stp ?_; try with_reducible exact True.intro
  refine useT w.toT ?_ ⟨⟨rfl, rfl, rfl, trivial⟩, trivial⟩
  refine stp ?_; try with_reducible exact True.intro
  refine Or.inr ?_; refine stp ?_; try with_reducible exact True.intro
  refine ⟨Nat, fun h => h ≤ hh.toNat + 1, fun h => hh.toNat + 1 - h, fun h => [(1, .pcell 0 0), (3, .own 1 0 (d1 (hh, 0, bb) h).length), (4, .i h)], fun h => [.vars [.i hh, .i 0, .i bb], .arr (.list sqT) (d1 (hh, 0, bb) h) false], ⟨0, ⟨.frz [], [0, 1], ⟨rfl, rfl, rfl, trivial⟩, ⟨rfl, rfl, trivial⟩, by decide, rfl, rfl, rfl⟩, Nat.zero_le _⟩, fun h h1 => ?_⟩
  refine stp ?_; try with_reducible exact True.intro
  refine Br.mk (fun h3 => ?_) (fun h3 => ?_) <;> simp only [decide_eq_true_eq, decide_eq_false_iff_not, ne_eq, Decidable.not_not, Bool.not_eq_eq_eq_not, Bool.not_true, Bool.not_false] at h3
  · refine stp ?_; try with_reducible exact True.intro
    refine ⟨Nat, fun b => b ≤ bb.toNat + 1, fun b => bb.toNat + 1 - b, fun b => [(1, .pcell 0 0), (3, .own 1 0 (d1 (hh, 0, bb) h ++ d2 (hh, 0, bb) h b).length), (4, .i h), (5, .i b)], fun b => [.vars [.i hh, .i 0, .i bb], .arr (.list sqT) (d1 (hh, 0, bb) h ++ d2 (hh, 0, bb) h b) false], ⟨0, by simpa [d2] using ⟨.frz [], [0, 1], ⟨rfl, rfl, rfl, rfl, trivial⟩, ⟨rfl, rfl, trivial⟩, by decide, rfl, rfl, rfl⟩, Nat.zero_le _⟩, fun b h4 => ?_⟩
    refine stp ?_; try with_reducible exact True.intro
    refine Br.mk (fun h5 => ?_) (fun h5 => ?_) <;> simp only [decide_eq_true_eq, decide_eq_false_iff_not, ne_eq, Decidable.not_not, Bool.not_eq_eq_eq_not, Bool.not_true, Bool.not_false] at h5
    · have w1 := IsSurfaceI (onD h b)
      have w2 := IsSurfaceI (twD (hh, 0, bb) h b)
      have w3 := isFlat (onD h b)
      have w4 := isFlat (twD (hh, 0, bb) h b)
      have L1 : (d1 (hh, 0, bb) h).length ≤ 441 := Nat.le_trans (L1 h) (Nat.mul_le_mul (show bb.toNat + 1 ≤ 21 by omega) (show h ≤ 21 by omega))
      have L2 := L2 h b
      have hd := d2_succ (hh, 0, bb) h b
      have hk : okD (hh, 0, bb) h b = (orD (hh, 0, bb) h b && (isS (onD h b) && (isS (twD (hh, 0, bb) h b) && (!isFl (onD h b) && !isFl (twD (hh, 0, bb) h b))))) := rfl
      have ho : orD (hh, 0, bb) h b = (decide ((h : Int) < hh - h) || (decide ((h : Int) = hh - h) && decide ((b : Int) + 1 ≤ bb - b + 1))) := rfl
      generalize isS (onD h b) = p1 at *
      generalize isS (twD (hh, 0, bb) h b) = p2 at *
      generalize isFl (onD h b) = p3 at *
      generalize isFl (twD (hh, 0, bb) h b) = p4 at *
      dsimp only [onD, twD, sfV] at w1 w2 w3 w4
      repeat (first | (with_reducible refine wpKs ?_) | (with_reducible refine wpKb ?_) | (with_reducible refine wpKbn ?_) | (with_reducible refine wpKk ?_) | (refine wpKt rfl ?_) | (refine wpKf rfl ?_) | (with_reducible refine wpKr ?_) | ((with_reducible refine wpKd ?_ ?_); kernel_rfl) | (with_reducible refine wpKn ?_) | (with_reducible refine seqKn ?_) | (with_reducible refine drawKn ?_) | (first | refine seqKs rfl rfl rfl rfl ?_ | refine seqKu rfl rfl rfl rfl ?_ | refine drawKs rfl rfl rfl rfl ?_ | refine drawKu rfl rfl rfl rfl ?_) | ((first | refine seqK rfl rfl (fun K' hK => ?_) | refine seqKr rfl rfl rfl rfl (fun K' hK => ?_)); refine stp ?_; with_reducible refine hK _ _ ?_; clear hK K') | ((first | refine drawK rfl rfl (fun K' hK => ?_) | refine drawKr rfl rfl rfl rfl (fun K' hK => ?_)); refine stp ?_; with_reducible refine hK _ _ _ ?_; clear hK K') | (refine seqKz rfl rfl (fun K' hK => ?_); refine stp ?_; with_reducible refine hK _ ?_; clear hK K') | (refine drawKz rfl rfl (fun K' hK => ?_); refine stp ?_; with_reducible refine hK _ _ ?_; clear hK K'))
      (first | refine seqK rfl rfl (fun K' hK => ?_) | refine seqKr rfl rfl rfl rfl (fun K' hK => ?_)); (conv => whnf); refine useT (w1.toT) ?_ ⟨⟨rfl, rfl, rfl, trivial⟩, trivial⟩; with_reducible refine hK _ _ ?_; clear hK K'; repeat (first | (with_reducible refine wpKs ?_) | (with_reducible refine wpKb ?_) | (with_reducible refine wpKbn ?_) | (with_reducible refine wpKk ?_) | (refine wpKt rfl ?_) | (refine wpKf rfl ?_) | (with_reducible refine wpKr ?_) | ((with_reducible refine wpKd ?_ ?_); kernel_rfl) | (with_reducible refine wpKn ?_) | (with_reducible refine seqKn ?_) | (with_reducible refine drawKn ?_) | (first | refine seqKs rfl rfl rfl rfl ?_ | refine seqKu rfl rfl rfl rfl ?_ | refine drawKs rfl rfl rfl rfl ?_ | refine drawKu rfl rfl rfl rfl ?_) | ((first | refine seqK rfl rfl (fun K' hK => ?_) | refine seqKr rfl rfl rfl rfl (fun K' hK => ?_)); refine stp ?_; with_reducible refine hK _ _ ?_; clear hK K') | ((first | refine drawK rfl rfl (fun K' hK => ?_) | refine drawKr rfl rfl rfl rfl (fun K' hK => ?_)); refine stp ?_; with_reducible refine hK _ _ _ ?_; clear hK K') | (refine seqKz rfl rfl (fun K' hK => ?_); refine stp ?_; with_reducible refine hK _ ?_; clear hK K') | (refine drawKz rfl rfl (fun K' hK => ?_); refine stp ?_; with_reducible refine hK _ _ ?_; clear hK K'))
      cases p1
      · repeat (first | (with_reducible refine wpKs ?_) | (with_reducible refine wpKb ?_) | (with_reducible refine wpKbn ?_) | (with_reducible refine wpKk ?_) | (refine wpKt rfl ?_) | (refine wpKf rfl ?_) | (with_reducible refine wpKr ?_) | ((with_reducible refine wpKd ?_ ?_); kernel_rfl) | (with_reducible refine wpKn ?_) | (with_reducible refine seqKn ?_) | (with_reducible refine drawKn ?_) | (first | refine seqKs rfl rfl rfl rfl ?_ | refine seqKu rfl rfl rfl rfl ?_ | refine drawKs rfl rfl rfl rfl ?_ | refine drawKu rfl rfl rfl rfl ?_) | ((first | refine seqK rfl rfl (fun K' hK => ?_) | refine seqKr rfl rfl rfl rfl (fun K' hK => ?_)); refine stp ?_; with_reducible refine hK _ _ ?_; clear hK K') | ((first | refine drawK rfl rfl (fun K' hK => ?_) | refine drawKr rfl rfl rfl rfl (fun K' hK => ?_)); refine stp ?_; with_reducible refine hK _ _ _ ?_; clear hK K') | (refine seqKz rfl rfl (fun K' hK => ?_); refine stp ?_; with_reducible refine hK _ ?_; clear hK K') | (refine drawKz rfl rfl (fun K' hK => ?_); refine stp ?_; with_reducible refine hK _ _ ?_; clear hK K'))
        refine stp ?_; try with_reducible exact True.intro
        have hn : okD (hh, 0, bb) h b = false := by rw [hk]; simp
        replace hd : d2 (hh, 0, bb) h (b + 1) = d2 (hh, 0, bb) h b := by rw [hd, hn]; simp
        refine ⟨b + 1, ?_, by omega, by dsimp only; omega⟩
        dsimp only
        rw [hd]
        exact ⟨.frz [], [0, 1], ⟨rfl, rfl, rfl, rfl, trivial⟩, ⟨rfl, rfl, trivial⟩, by decide, rfl, rfl, rfl⟩
      · repeat (first | (with_reducible refine wpKs ?_) | (with_reducible refine wpKb ?_) | (with_reducible refine wpKbn ?_) | (with_reducible refine wpKk ?_) | (refine wpKt rfl ?_) | (refine wpKf rfl ?_) | (with_reducible refine wpKr ?_) | ((with_reducible refine wpKd ?_ ?_); kernel_rfl) | (with_reducible refine wpKn ?_) | (with_reducible refine seqKn ?_) | (with_reducible refine drawKn ?_) | (first | refine seqKs rfl rfl rfl rfl ?_ | refine seqKu rfl rfl rfl rfl ?_ | refine drawKs rfl rfl rfl rfl ?_ | refine drawKu rfl rfl rfl rfl ?_) | ((first | refine seqK rfl rfl (fun K' hK => ?_) | refine seqKr rfl rfl rfl rfl (fun K' hK => ?_)); refine stp ?_; with_reducible refine hK _ _ ?_; clear hK K') | ((first | refine drawK rfl rfl (fun K' hK => ?_) | refine drawKr rfl rfl rfl rfl (fun K' hK => ?_)); refine stp ?_; with_reducible refine hK _ _ _ ?_; clear hK K') | (refine seqKz rfl rfl (fun K' hK => ?_); refine stp ?_; with_reducible refine hK _ ?_; clear hK K') | (refine drawKz rfl rfl (fun K' hK => ?_); refine stp ?_; with_reducible refine hK _ _ ?_; clear hK K'))
        (first | refine seqK rfl rfl (fun K' hK => ?_) | refine seqKr rfl rfl rfl rfl (fun K' hK => ?_)); (conv => whnf); refine useT (w2.toT) ?_ ⟨⟨rfl, rfl, rfl, trivial⟩, trivial⟩; with_reducible refine hK _ _ ?_; clear hK K'; repeat (first | (with_reducible refine wpKs ?_) | (with_reducible refine wpKb ?_) | (with_reducible refine wpKbn ?_) | (with_reducible refine wpKk ?_) | (refine wpKt rfl ?_) | (refine wpKf rfl ?_) | (with_reducible refine wpKr ?_) | ((with_reducible refine wpKd ?_ ?_); kernel_rfl) | (with_reducible refine wpKn ?_) | (with_reducible refine seqKn ?_) | (with_reducible refine drawKn ?_) | (first | refine seqKs rfl rfl rfl rfl ?_ | refine seqKu rfl rfl rfl rfl ?_ | refine drawKs rfl rfl rfl rfl ?_ | refine drawKu rfl rfl rfl rfl ?_) | ((first | refine seqK rfl rfl (fun K' hK => ?_) | refine seqKr rfl rfl rfl rfl (fun K' hK => ?_)); refine stp ?_; with_reducible refine hK _ _ ?_; clear hK K') | ((first | refine drawK rfl rfl (fun K' hK => ?_) | refine drawKr rfl rfl rfl rfl (fun K' hK => ?_)); refine stp ?_; with_reducible refine hK _ _ _ ?_; clear hK K') | (refine seqKz rfl rfl (fun K' hK => ?_); refine stp ?_; with_reducible refine hK _ ?_; clear hK K') | (refine drawKz rfl rfl (fun K' hK => ?_); refine stp ?_; with_reducible refine hK _ _ ?_; clear hK K'))
        cases p2
        · repeat (first | (with_reducible refine wpKs ?_) | (with_reducible refine wpKb ?_) | (with_reducible refine wpKbn ?_) | (with_reducible refine wpKk ?_) | (refine wpKt rfl ?_) | (refine wpKf rfl ?_) | (with_reducible refine wpKr ?_) | ((with_reducible refine wpKd ?_ ?_); kernel_rfl) | (with_reducible refine wpKn ?_) | (with_reducible refine seqKn ?_) | (with_reducible refine drawKn ?_) | (first | refine seqKs rfl rfl rfl rfl ?_ | refine seqKu rfl rfl rfl rfl ?_ | refine drawKs rfl rfl rfl rfl ?_ | refine drawKu rfl rfl rfl rfl ?_) | ((first | refine seqK rfl rfl (fun K' hK => ?_) | refine seqKr rfl rfl rfl rfl (fun K' hK => ?_)); refine stp ?_; with_reducible refine hK _ _ ?_; clear hK K') | ((first | refine drawK rfl rfl (fun K' hK => ?_) | refine drawKr rfl rfl rfl rfl (fun K' hK => ?_)); refine stp ?_; with_reducible refine hK _ _ _ ?_; clear hK K') | (refine seqKz rfl rfl (fun K' hK => ?_); refine stp ?_; with_reducible refine hK _ ?_; clear hK K') | (refine drawKz rfl rfl (fun K' hK => ?_); refine stp ?_; with_reducible refine hK _ _ ?_; clear hK K'))
          refine stp ?_; try with_reducible exact True.intro
          have hn : okD (hh, 0, bb) h b = false := by rw [hk]; simp
          replace hd : d2 (hh, 0, bb) h (b + 1) = d2 (hh, 0, bb) h b := by rw [hd, hn]; simp
          refine ⟨b + 1, ?_, by omega, by dsimp only; omega⟩
          dsimp only
          rw [hd]
          exact ⟨.frz [], [0, 1], ⟨rfl, rfl, rfl, rfl, trivial⟩, ⟨rfl, rfl, trivial⟩, by decide, rfl, rfl, rfl⟩
        · repeat (first | (with_reducible refine wpKs ?_) | (with_reducible refine wpKb ?_) | (with_reducible refine wpKbn ?_) | (with_reducible refine wpKk ?_) | (refine wpKt rfl ?_) | (refine wpKf rfl ?_) | (with_reducible refine wpKr ?_) | ((with_reducible refine wpKd ?_ ?_); kernel_rfl) | (with_reducible refine wpKn ?_) | (with_reducible refine seqKn ?_) | (with_reducible refine drawKn ?_) | (first | refine seqKs rfl rfl rfl rfl ?_ | refine seqKu rfl rfl rfl rfl ?_ | refine drawKs rfl rfl rfl rfl ?_ | refine drawKu rfl rfl rfl rfl ?_) | ((first | refine seqK rfl rfl (fun K' hK => ?_) | refine seqKr rfl rfl rfl rfl (fun K' hK => ?_)); refine stp ?_; with_reducible refine hK _ _ ?_; clear hK K') | ((first | refine drawK rfl rfl (fun K' hK => ?_) | refine drawKr rfl rfl rfl rfl (fun K' hK => ?_)); refine stp ?_; with_reducible refine hK _ _ _ ?_; clear hK K') | (refine seqKz rfl rfl (fun K' hK => ?_); refine stp ?_; with_reducible refine hK _ ?_; clear hK K') | (refine drawKz rfl rfl (fun K' hK => ?_); refine stp ?_; with_reducible refine hK _ _ ?_; clear hK K'))
          (first | refine seqK rfl rfl (fun K' hK => ?_) | refine seqKr rfl rfl rfl rfl (fun K' hK => ?_)); (conv => whnf); refine useT (w3.toT) ?_ ⟨⟨rfl, rfl, rfl, trivial⟩, trivial⟩; with_reducible refine hK _ _ ?_; clear hK K'; repeat (first | (with_reducible refine wpKs ?_) | (with_reducible refine wpKb ?_) | (with_reducible refine wpKbn ?_) | (with_reducible refine wpKk ?_) | (refine wpKt rfl ?_) | (refine wpKf rfl ?_) | (with_reducible refine wpKr ?_) | ((with_reducible refine wpKd ?_ ?_); kernel_rfl) | (with_reducible refine wpKn ?_) | (with_reducible refine seqKn ?_) | (with_reducible refine drawKn ?_) | (first | refine seqKs rfl rfl rfl rfl ?_ | refine seqKu rfl rfl rfl rfl ?_ | refine drawKs rfl rfl rfl rfl ?_ | refine drawKu rfl rfl rfl rfl ?_) | ((first | refine seqK rfl rfl (fun K' hK => ?_) | refine seqKr rfl rfl rfl rfl (fun K' hK => ?_)); refine stp ?_; with_reducible refine hK _ _ ?_; clear hK K') | ((first | refine drawK rfl rfl (fun K' hK => ?_) | refine drawKr rfl rfl rfl rfl (fun K' hK => ?_)); refine stp ?_; with_reducible refine hK _ _ _ ?_; clear hK K') | (refine seqKz rfl rfl (fun K' hK => ?_); refine stp ?_; with_reducible refine hK _ ?_; clear hK K') | (refine drawKz rfl rfl (fun K' hK => ?_); refine stp ?_; with_reducible refine hK _ _ ?_; clear hK K'))
          cases p3
          · repeat (first | (with_reducible refine wpKs ?_) | (with_reducible refine wpKb ?_) | (with_reducible refine wpKbn ?_) | (with_reducible refine wpKk ?_) | (refine wpKt rfl ?_) | (refine wpKf rfl ?_) | (with_reducible refine wpKr ?_) | ((with_reducible refine wpKd ?_ ?_); kernel_rfl) | (with_reducible refine wpKn ?_) | (with_reducible refine seqKn ?_) | (with_reducible refine drawKn ?_) | (first | refine seqKs rfl rfl rfl rfl ?_ | refine seqKu rfl rfl rfl rfl ?_ | refine drawKs rfl rfl rfl rfl ?_ | refine drawKu rfl rfl rfl rfl ?_) | ((first | refine seqK rfl rfl (fun K' hK => ?_) | refine seqKr rfl rfl rfl rfl (fun K' hK => ?_)); refine stp ?_; with_reducible refine hK _ _ ?_; clear hK K') | ((first | refine drawK rfl rfl (fun K' hK => ?_) | refine drawKr rfl rfl rfl rfl (fun K' hK => ?_)); refine stp ?_; with_reducible refine hK _ _ _ ?_; clear hK K') | (refine seqKz rfl rfl (fun K' hK => ?_); refine stp ?_; with_reducible refine hK _ ?_; clear hK K') | (refine drawKz rfl rfl (fun K' hK => ?_); refine stp ?_; with_reducible refine hK _ _ ?_; clear hK K'))
            (first | refine seqK rfl rfl (fun K' hK => ?_) | refine seqKr rfl rfl rfl rfl (fun K' hK => ?_)); (conv => whnf); refine useT (w4.toT) ?_ ⟨⟨rfl, rfl, rfl, trivial⟩, trivial⟩; with_reducible refine hK _ _ ?_; clear hK K'; repeat (first | (with_reducible refine wpKs ?_) | (with_reducible refine wpKb ?_) | (with_reducible refine wpKbn ?_) | (with_reducible refine wpKk ?_) | (refine wpKt rfl ?_) | (refine wpKf rfl ?_) | (with_reducible refine wpKr ?_) | ((with_reducible refine wpKd ?_ ?_); kernel_rfl) | (with_reducible refine wpKn ?_) | (with_reducible refine seqKn ?_) | (with_reducible refine drawKn ?_) | (first | refine seqKs rfl rfl rfl rfl ?_ | refine seqKu rfl rfl rfl rfl ?_ | refine drawKs rfl rfl rfl rfl ?_ | refine drawKu rfl rfl rfl rfl ?_) | ((first | refine seqK rfl rfl (fun K' hK => ?_) | refine seqKr rfl rfl rfl rfl (fun K' hK => ?_)); refine stp ?_; with_reducible refine hK _ _ ?_; clear hK K') | ((first | refine drawK rfl rfl (fun K' hK => ?_) | refine drawKr rfl rfl rfl rfl (fun K' hK => ?_)); refine stp ?_; with_reducible refine hK _ _ _ ?_; clear hK K') | (refine seqKz rfl rfl (fun K' hK => ?_); refine stp ?_; with_reducible refine hK _ ?_; clear hK K') | (refine drawKz rfl rfl (fun K' hK => ?_); refine stp ?_; with_reducible refine hK _ _ ?_; clear hK K'))
            cases p4
            · repeat (first | (with_reducible refine wpKs ?_) | (with_reducible refine wpKb ?_) | (with_reducible refine wpKbn ?_) | (with_reducible refine wpKk ?_) | (refine wpKt rfl ?_) | (refine wpKf rfl ?_) | (with_reducible refine wpKr ?_) | ((with_reducible refine wpKd ?_ ?_); kernel_rfl) | (with_reducible refine wpKn ?_) | (with_reducible refine seqKn ?_) | (with_reducible refine drawKn ?_) | (first | refine seqKs rfl rfl rfl rfl ?_ | refine seqKu rfl rfl rfl rfl ?_ | refine drawKs rfl rfl rfl rfl ?_ | refine drawKu rfl rfl rfl rfl ?_) | ((first | refine seqK rfl rfl (fun K' hK => ?_) | refine seqKr rfl rfl rfl rfl (fun K' hK => ?_)); refine stp ?_; with_reducible refine hK _ _ ?_; clear hK K') | ((first | refine drawK rfl rfl (fun K' hK => ?_) | refine drawKr rfl rfl rfl rfl (fun K' hK => ?_)); refine stp ?_; with_reducible refine hK _ _ _ ?_; clear hK K') | (refine seqKz rfl rfl (fun K' hK => ?_); refine stp ?_; with_reducible refine hK _ ?_; clear hK K') | (refine drawKz rfl rfl (fun K' hK => ?_); refine stp ?_; with_reducible refine hK _ _ ?_; clear hK K'))
              generalize decide ((h : Int) < hh - h) = u1 at *
              cases u1
              · repeat (first | (with_reducible refine wpKs ?_) | (with_reducible refine wpKb ?_) | (with_reducible refine wpKbn ?_) | (with_reducible refine wpKk ?_) | (refine wpKt rfl ?_) | (refine wpKf rfl ?_) | (with_reducible refine wpKr ?_) | ((with_reducible refine wpKd ?_ ?_); kernel_rfl) | (with_reducible refine wpKn ?_) | (with_reducible refine seqKn ?_) | (with_reducible refine drawKn ?_) | (first | refine seqKs rfl rfl rfl rfl ?_ | refine seqKu rfl rfl rfl rfl ?_ | refine drawKs rfl rfl rfl rfl ?_ | refine drawKu rfl rfl rfl rfl ?_) | ((first | refine seqK rfl rfl (fun K' hK => ?_) | refine seqKr rfl rfl rfl rfl (fun K' hK => ?_)); refine stp ?_; with_reducible refine hK _ _ ?_; clear hK K') | ((first | refine drawK rfl rfl (fun K' hK => ?_) | refine drawKr rfl rfl rfl rfl (fun K' hK => ?_)); refine stp ?_; with_reducible refine hK _ _ _ ?_; clear hK K') | (refine seqKz rfl rfl (fun K' hK => ?_); refine stp ?_; with_reducible refine hK _ ?_; clear hK K') | (refine drawKz rfl rfl (fun K' hK => ?_); refine stp ?_; with_reducible refine hK _ _ ?_; clear hK K'))
                generalize decide ((h : Int) = hh - h) = u2 at *
                cases u2
                · repeat (first | (with_reducible refine wpKs ?_) | (with_reducible refine wpKb ?_) | (with_reducible refine wpKbn ?_) | (with_reducible refine wpKk ?_) | (refine wpKt rfl ?_) | (refine wpKf rfl ?_) | (with_reducible refine wpKr ?_) | ((with_reducible refine wpKd ?_ ?_); kernel_rfl) | (with_reducible refine wpKn ?_) | (with_reducible refine seqKn ?_) | (with_reducible refine drawKn ?_) | (first | refine seqKs rfl rfl rfl rfl ?_ | refine seqKu rfl rfl rfl rfl ?_ | refine drawKs rfl rfl rfl rfl ?_ | refine drawKu rfl rfl rfl rfl ?_) | ((first | refine seqK rfl rfl (fun K' hK => ?_) | refine seqKr rfl rfl rfl rfl (fun K' hK => ?_)); refine stp ?_; with_reducible refine hK _ _ ?_; clear hK K') | ((first | refine drawK rfl rfl (fun K' hK => ?_) | refine drawKr rfl rfl rfl rfl (fun K' hK => ?_)); refine stp ?_; with_reducible refine hK _ _ _ ?_; clear hK K') | (refine seqKz rfl rfl (fun K' hK => ?_); refine stp ?_; with_reducible refine hK _ ?_; clear hK K') | (refine drawKz rfl rfl (fun K' hK => ?_); refine stp ?_; with_reducible refine hK _ _ ?_; clear hK K'))
                  refine stp ?_; try with_reducible exact True.intro
                  replace hd : d2 (hh, 0, bb) h (b + 1) = d2 (hh, 0, bb) h b := by rw [hd, hk, ho]; simp
                  refine ⟨b + 1, ?_, by omega, by dsimp only; omega⟩
                  dsimp only
                  rw [hd]
                  exact ⟨.frz [], [0, 1], ⟨rfl, rfl, rfl, rfl, trivial⟩, ⟨rfl, rfl, trivial⟩, by decide, rfl, rfl, rfl⟩
                · repeat (first | (with_reducible refine wpKs ?_) | (with_reducible refine wpKb ?_) | (with_reducible refine wpKbn ?_) | (with_reducible refine wpKk ?_) | (refine wpKt rfl ?_) | (refine wpKf rfl ?_) | (with_reducible refine wpKr ?_) | ((with_reducible refine wpKd ?_ ?_); kernel_rfl) | (with_reducible refine wpKn ?_) | (with_reducible refine seqKn ?_) | (with_reducible refine drawKn ?_) | (first | refine seqKs rfl rfl rfl rfl ?_ | refine seqKu rfl rfl rfl rfl ?_ | refine drawKs rfl rfl rfl rfl ?_ | refine drawKu rfl rfl rfl rfl ?_) | ((first | refine seqK rfl rfl (fun K' hK => ?_) | refine seqKr rfl rfl rfl rfl (fun K' hK => ?_)); refine stp ?_; with_reducible refine hK _ _ ?_; clear hK K') | ((first | refine drawK rfl rfl (fun K' hK => ?_) | refine drawKr rfl rfl rfl rfl (fun K' hK => ?_)); refine stp ?_; with_reducible refine hK _ _ _ ?_; clear hK K') | (refine seqKz rfl rfl (fun K' hK => ?_); refine stp ?_; with_reducible refine hK _ ?_; clear hK K') | (refine drawKz rfl rfl (fun K' hK => ?_); refine stp ?_; with_reducible refine hK _ _ ?_; clear hK K'))
                  generalize decide ((b : Int) + 1 ≤ bb - b + 1) = u3 at *
                  cases u3
                  · repeat (first | (with_reducible refine wpKs ?_) | (with_reducible refine wpKb ?_) | (with_reducible refine wpKbn ?_) | (with_reducible refine wpKk ?_) | (refine wpKt rfl ?_) | (refine wpKf rfl ?_) | (with_reducible refine wpKr ?_) | ((with_reducible refine wpKd ?_ ?_); kernel_rfl) | (with_reducible refine wpKn ?_) | (with_reducible refine seqKn ?_) | (with_reducible refine drawKn ?_) | (first | refine seqKs rfl rfl rfl rfl ?_ | refine seqKu rfl rfl rfl rfl ?_ | refine drawKs rfl rfl rfl rfl ?_ | refine drawKu rfl rfl rfl rfl ?_) | ((first | refine seqK rfl rfl (fun K' hK => ?_) | refine seqKr rfl rfl rfl rfl (fun K' hK => ?_)); refine stp ?_; with_reducible refine hK _ _ ?_; clear hK K') | ((first | refine drawK rfl rfl (fun K' hK => ?_) | refine drawKr rfl rfl rfl rfl (fun K' hK => ?_)); refine stp ?_; with_reducible refine hK _ _ _ ?_; clear hK K') | (refine seqKz rfl rfl (fun K' hK => ?_); refine stp ?_; with_reducible refine hK _ ?_; clear hK K') | (refine drawKz rfl rfl (fun K' hK => ?_); refine stp ?_; with_reducible refine hK _ _ ?_; clear hK K'))
                    refine stp ?_; try with_reducible exact True.intro
                    replace hd : d2 (hh, 0, bb) h (b + 1) = d2 (hh, 0, bb) h b := by rw [hd, hk, ho]; simp
                    refine ⟨b + 1, ?_, by omega, by dsimp only; omega⟩
                    dsimp only
                    rw [hd]
                    exact ⟨.frz [], [0, 1], ⟨rfl, rfl, rfl, rfl, trivial⟩, ⟨rfl, rfl, trivial⟩, by decide, rfl, rfl, rfl⟩
                  · repeat (first | (with_reducible refine wpKs ?_) | (with_reducible refine wpKb ?_) | (with_reducible refine wpKbn ?_) | (with_reducible refine wpKk ?_) | (refine wpKt rfl ?_) | (refine wpKf rfl ?_) | (with_reducible refine wpKr ?_) | ((with_reducible refine wpKd ?_ ?_); kernel_rfl) | (with_reducible refine wpKn ?_) | (with_reducible refine seqKn ?_) | (with_reducible refine drawKn ?_) | (first | refine seqKs rfl rfl rfl rfl ?_ | refine seqKu rfl rfl rfl rfl ?_ | refine drawKs rfl rfl rfl rfl ?_ | refine drawKu rfl rfl rfl rfl ?_) | ((first | refine seqK rfl rfl (fun K' hK => ?_) | refine seqKr rfl rfl rfl rfl (fun K' hK => ?_)); refine stp ?_; with_reducible refine hK _ _ ?_; clear hK K') | ((first | refine drawK rfl rfl (fun K' hK => ?_) | refine drawKr rfl rfl rfl rfl (fun K' hK => ?_)); refine stp ?_; with_reducible refine hK _ _ _ ?_; clear hK K') | (refine seqKz rfl rfl (fun K' hK => ?_); refine stp ?_; with_reducible refine hK _ ?_; clear hK K') | (refine drawKz rfl rfl (fun K' hK => ?_); refine stp ?_; with_reducible refine hK _ _ ?_; clear hK K'))
                    refine stp ?_; try with_reducible exact True.intro
                    refine Or.inr ?_; refine stp ?_; try with_reducible exact True.intro
                    refine Or.inr ?_; refine stp ?_; try with_reducible exact True.intro
                    replace hd : d2 (hh, 0, bb) h (b + 1) = d2 (hh, 0, bb) h b ++ [prD (hh, 0, bb) h b] := by rw [hd, hk, ho]; rfl
                    refine ⟨b + 1, ?_, by omega, by dsimp only; omega⟩
                    dsimp only
                    rw [hd, ← List.append_assoc]
                    refine ⟨.frz [], [0, 6], ⟨rfl, ?_, rfl, rfl, trivial⟩, ⟨rfl, ?_, trivial⟩, by decide, rfl, rfl, rfl⟩
                    · show V.own 6 0 _ = V.own 6 0 _
                      congr 1; simp; omega
                    · refine congrArg (fun x => some (Obj.arr (.list sqT) x false)) ?_
                      simp
                      rw [List.take_of_length_le (by simp only [List.length_append]; omega), List.append_assoc]
                      rfl
              · repeat (first | (with_reducible refine wpKs ?_) | (with_reducible refine wpKb ?_) | (with_reducible refine wpKbn ?_) | (with_reducible refine wpKk ?_) | (refine wpKt rfl ?_) | (refine wpKf rfl ?_) | (with_reducible refine wpKr ?_) | ((with_reducible refine wpKd ?_ ?_); kernel_rfl) | (with_reducible refine wpKn ?_) | (with_reducible refine seqKn ?_) | (with_reducible refine drawKn ?_) | (first | refine seqKs rfl rfl rfl rfl ?_ | refine seqKu rfl rfl rfl rfl ?_ | refine drawKs rfl rfl rfl rfl ?_ | refine drawKu rfl rfl rfl rfl ?_) | ((first | refine seqK rfl rfl (fun K' hK => ?_) | refine seqKr rfl rfl rfl rfl (fun K' hK => ?_)); refine stp ?_; with_reducible refine hK _ _ ?_; clear hK K') | ((first | refine drawK rfl rfl (fun K' hK => ?_) | refine drawKr rfl rfl rfl rfl (fun K' hK => ?_)); refine stp ?_; with_reducible refine hK _ _ _ ?_; clear hK K') | (refine seqKz rfl rfl (fun K' hK => ?_); refine stp ?_; with_reducible refine hK _ ?_; clear hK K') | (refine drawKz rfl rfl (fun K' hK => ?_); refine stp ?_; with_reducible refine hK _ _ ?_; clear hK K'))
                refine stp ?_; try with_reducible exact True.intro
                refine Or.inr ?_; refine stp ?_; try with_reducible exact True.intro
                refine Or.inr ?_; refine stp ?_; try with_reducible exact True.intro
                replace hd : d2 (hh, 0, bb) h (b + 1) = d2 (hh, 0, bb) h b ++ [prD (hh, 0, bb) h b] := by rw [hd, hk, ho]; rfl
                refine ⟨b + 1, ?_, by omega, by dsimp only; omega⟩
                dsimp only
                rw [hd, ← List.append_assoc]
                refine ⟨.frz [], [0, 6], ⟨rfl, ?_, rfl, rfl, trivial⟩, ⟨rfl, ?_, trivial⟩, by decide, rfl, rfl, rfl⟩
                · show V.own 6 0 _ = V.own 6 0 _
                  congr 1; simp; omega
                · refine congrArg (fun x => some (Obj.arr (.list sqT) x false)) ?_
                  simp
                  rw [List.take_of_length_le (by simp only [List.length_append]; omega), List.append_assoc]
                  rfl
            · repeat (first | (with_reducible refine wpKs ?_) | (with_reducible refine wpKb ?_) | (with_reducible refine wpKbn ?_) | (with_reducible refine wpKk ?_) | (refine wpKt rfl ?_) | (refine wpKf rfl ?_) | (with_reducible refine wpKr ?_) | ((with_reducible refine wpKd ?_ ?_); kernel_rfl) | (with_reducible refine wpKn ?_) | (with_reducible refine seqKn ?_) | (with_reducible refine drawKn ?_) | (first | refine seqKs rfl rfl rfl rfl ?_ | refine seqKu rfl rfl rfl rfl ?_ | refine drawKs rfl rfl rfl rfl ?_ | refine drawKu rfl rfl rfl rfl ?_) | ((first | refine seqK rfl rfl (fun K' hK => ?_) | refine seqKr rfl rfl rfl rfl (fun K' hK => ?_)); refine stp ?_; with_reducible refine hK _ _ ?_; clear hK K') | ((first | refine drawK rfl rfl (fun K' hK => ?_) | refine drawKr rfl rfl rfl rfl (fun K' hK => ?_)); refine stp ?_; with_reducible refine hK _ _ _ ?_; clear hK K') | (refine seqKz rfl rfl (fun K' hK => ?_); refine stp ?_; with_reducible refine hK _ ?_; clear hK K') | (refine drawKz rfl rfl (fun K' hK => ?_); refine stp ?_; with_reducible refine hK _ _ ?_; clear hK K'))
              refine stp ?_; try with_reducible exact True.intro
              have hn : okD (hh, 0, bb) h b = false := by rw [hk]; simp
              replace hd : d2 (hh, 0, bb) h (b + 1) = d2 (hh, 0, bb) h b := by rw [hd, hn]; simp
              refine ⟨b + 1, ?_, by omega, by dsimp only; omega⟩
              dsimp only
              rw [hd]
              exact ⟨.frz [], [0, 1], ⟨rfl, rfl, rfl, rfl, trivial⟩, ⟨rfl, rfl, trivial⟩, by decide, rfl, rfl, rfl⟩
          · repeat (first | (with_reducible refine wpKs ?_) | (with_reducible refine wpKb ?_) | (with_reducible refine wpKbn ?_) | (with_reducible refine wpKk ?_) | (refine wpKt rfl ?_) | (refine wpKf rfl ?_) | (with_reducible refine wpKr ?_) | ((with_reducible refine wpKd ?_ ?_); kernel_rfl) | (with_reducible refine wpKn ?_) | (with_reducible refine seqKn ?_) | (with_reducible refine drawKn ?_) | (first | refine seqKs rfl rfl rfl rfl ?_ | refine seqKu rfl rfl rfl rfl ?_ | refine drawKs rfl rfl rfl rfl ?_ | refine drawKu rfl rfl rfl rfl ?_) | ((first | refine seqK rfl rfl (fun K' hK => ?_) | refine seqKr rfl rfl rfl rfl (fun K' hK => ?_)); refine stp ?_; with_reducible refine hK _ _ ?_; clear hK K') | ((first | refine drawK rfl rfl (fun K' hK => ?_) | refine drawKr rfl rfl rfl rfl (fun K' hK => ?_)); refine stp ?_; with_reducible refine hK _ _ _ ?_; clear hK K') | (refine seqKz rfl rfl (fun K' hK => ?_); refine stp ?_; with_reducible refine hK _ ?_; clear hK K') | (refine drawKz rfl rfl (fun K' hK => ?_); refine stp ?_; with_reducible refine hK _ _ ?_; clear hK K'))
            refine stp ?_; try with_reducible exact True.intro
            have hn : okD (hh, 0, bb) h b = false := by rw [hk]; simp
            replace hd : d2 (hh, 0, bb) h (b + 1) = d2 (hh, 0, bb) h b := by rw [hd, hn]; simp
            refine ⟨b + 1, ?_, by omega, by dsimp only; omega⟩
            dsimp only
            rw [hd]
            exact ⟨.frz [], [0, 1], ⟨rfl, rfl, rfl, rfl, trivial⟩, ⟨rfl, rfl, trivial⟩, by decide, rfl, rfl, rfl⟩
    · refine stp ?_; try with_reducible exact True.intro
      have e7 : b = bb.toNat + 1 := by omega
      subst e7
      refine ⟨h + 1, ?_, by omega, by dsimp only; omega⟩
      dsimp only
      rw [d1_succ]
      exact ⟨.frz [], [0, 1], ⟨rfl, rfl, rfl, trivial⟩, ⟨rfl, rfl, trivial⟩, by decide, rfl, rfl, rfl⟩
  · refine stp ?_; try with_reducible exact True.intro
    have e7 : h = hh.toNat + 1 := by omega
    subst e7
    exact ⟨.frz [], [1], ⟨rfl, trivial⟩, ⟨rfl, trivial⟩, by decide, rfl, rfl, rfl⟩
theorem DividingCutsN (x : Sf) (hp : isP x = false) : ConT Try.prog 30 [sfV x] (.nil .unit) [] := by
  have w := isPlain x
  obtain ⟨hh, c, bb⟩ := x
  rw [hp] at w
  refine conT_of hmix hTab Try.func30 rfl rfl (by kernel_rfl) (by show 1 ≤ Try.f30.ntmps; decide) ?_
  dsimp only [sfV] at w ⊢
  refine stp ?_; try with_reducible exact True.intro
  refine useT w.toT ?_ ⟨⟨rfl, rfl, rfl, trivial⟩, trivial⟩
  refine stp ?_; try with_reducible exact True.intro
  exact ⟨.frz [], [], ⟨rfl, trivial⟩, trivial, by decide, rfl, rfl, rfl⟩
end Go.Proofs.YtaoepnmhflmhhaaTv
end
section
open Go Go.Proofs.YtaoepnmhflmhhaaVe Go.Proofs.YtaoepnmhflmhhaaTv Go.Proofs
namespace Go.Proofs.YtaoepnmhflmhhaaTv
set_option maxRecDepth 8000
set_option maxHeartbeats 2000000
theorem DividingCutsS (x : Sf) (hp : isP x = true) : ConT Try.prog 31 [sfV x] (.own 0 0 (d1 x (x.1.toNat + 1)).length) [.arr (.list sqT) (d1 x (x.1.toNat + 1)) false] := by
  have w := l21Fits x
  have hb := isP_rng hp
  have L1 := d1_len x
  have L2 := d2_len x
  obtain ⟨hh, c, bb⟩ := x
  obtain ⟨⟨q1, q2⟩, q3, q4, q5⟩ := hb
  dsimp only at q1 q2 q3 q4 q5
  subst q3
  rw [hp] at w
  refine conT_of hmix hTab Try.func31 rfl rfl (by kernel_rfl) (by show 1 ≤ Try.f31.ntmps; decide) ?_
  dsimp only [sfV] at w ⊢
  refine stp ?_; try with_reducible exact True.intro
  refine Or.inr ?_; refine stp ?_; try with_reducible exact True.intro
  refine ⟨Nat, fun h => h ≤ hh.toNat + 1, fun h => hh.toNat + 1 - h, fun h => [(1, .pcell 0 0), (3, .own 1 0 (d1 (hh, 0, bb) h).length), (4, .i h)], fun h => [.vars [.i hh, .i 0, .i bb], .arr (.list sqT) (d1 (hh, 0, bb) h) false], ⟨0, ⟨.frz [], [0, 1], ⟨rfl, rfl, rfl, trivial⟩, ⟨rfl, rfl, trivial⟩, by decide, rfl, rfl, rfl⟩, Nat.zero_le _⟩, fun h h1 => ?_⟩
  refine stp ?_; try with_reducible exact True.intro
  refine useT w.toT ?_ ⟨⟨rfl, rfl, rfl, trivial⟩, trivial⟩
  refine stp ?_; try with_reducible exact True.intro
  refine Br.mk (fun h3 => ?_) (fun h3 => ?_) <;> simp only [decide_eq_true_eq, decide_eq_false_iff_not, ne_eq, Decidable.not_not, Bool.not_eq_eq_eq_not, Bool.not_true, Bool.not_false] at h3
  · refine stp ?_; try with_reducible exact True.intro
    refine ⟨Nat, fun b => b ≤ bb.toNat + 1, fun b => bb.toNat + 1 - b, fun b => [(1, .pcell 0 0), (3, .own 1 0 (d1 (hh, 0, bb) h ++ d2 (hh, 0, bb) h b).length), (4, .i h), (5, .i b)], fun b => [.vars [.i hh, .i 0, .i bb], .arr (.list sqT) (d1 (hh, 0, bb) h ++ d2 (hh, 0, bb) h b) false], ⟨0, by simpa [d2] using ⟨.frz [], [0, 1], ⟨rfl, rfl, rfl, rfl, trivial⟩, ⟨rfl, rfl, trivial⟩, by decide, rfl, rfl, rfl⟩, Nat.zero_le _⟩, fun b h4 => ?_⟩
    refine stp ?_; try with_reducible exact True.intro
    refine Br.mk (fun h5 => ?_) (fun h5 => ?_) <;> simp only [decide_eq_true_eq, decide_eq_false_iff_not, ne_eq, Decidable.not_not, Bool.not_eq_eq_eq_not, Bool.not_true, Bool.not_false] at h5
    · have w1 := IsSurfaceS (onD h b)
      have w2 := IsSurfaceS (twD (hh, 0, bb) h b)
      have w3 := l21Small (onD h b)
      have w4 := l21Small (twD (hh, 0, bb) h b)
      have L1 : (d1 (hh, 0, bb) h).length ≤ 441 := Nat.le_trans (L1 h) (Nat.mul_le_mul (show bb.toNat + 1 ≤ 21 by omega) (show h ≤ 21 by omega))
      have L2 := L2 h b
      have hd := d2_succ (hh, 0, bb) h b
      have hk : okD (hh, 0, bb) h b = (orD (hh, 0, bb) h b && (isS (onD h b) && (isS (twD (hh, 0, bb) h b) && (!isFl (onD h b) && !isFl (twD (hh, 0, bb) h b))))) := rfl
      have ho : orD (hh, 0, bb) h b = (decide ((h : Int) < hh - h) || (decide ((h : Int) = hh - h) && decide ((b : Int) + 1 ≤ bb - b + 1))) := rfl
      generalize isS (onD h b) = p1 at *
      generalize isS (twD (hh, 0, bb) h b) = p2 at *
      generalize isFl (onD h b) = p3 at *
      generalize isFl (twD (hh, 0, bb) h b) = p4 at *
      dsimp only [onD, twD, sfV] at w1 w2 w3 w4
      repeat (first | (with_reducible refine wpKs ?_) | (with_reducible refine wpKb ?_) | (with_reducible refine wpKbn ?_) | (with_reducible refine wpKk ?_) | (refine wpKt rfl ?_) | (refine wpKf rfl ?_) | (with_reducible refine wpKr ?_) | ((with_reducible refine wpKd ?_ ?_); kernel_rfl) | (with_reducible refine wpKn ?_) | (with_reducible refine seqKn ?_) | (with_reducible refine drawKn ?_) | (first | refine seqKs rfl rfl rfl rfl ?_ | refine seqKu rfl rfl rfl rfl ?_ | refine drawKs rfl rfl rfl rfl ?_ | refine drawKu rfl rfl rfl rfl ?_) | ((first | refine seqK rfl rfl (fun K' hK => ?_) | refine seqKr rfl rfl rfl rfl (fun K' hK => ?_)); refine stp ?_; with_reducible refine hK _ _ ?_; clear hK K') | ((first | refine drawK rfl rfl (fun K' hK => ?_) | refine drawKr rfl rfl rfl rfl (fun K' hK => ?_)); refine stp ?_; with_reducible refine hK _ _ _ ?_; clear hK K') | (refine seqKz rfl rfl (fun K' hK => ?_); refine stp ?_; with_reducible refine hK _ ?_; clear hK K') | (refine drawKz rfl rfl (fun K' hK => ?_); refine stp ?_; with_reducible refine hK _ _ ?_; clear hK K'))
      generalize decide ((h : Int) < hh - h) = u1 at *
      cases u1
      · repeat (first | (with_reducible refine wpKs ?_) | (with_reducible refine wpKb ?_) | (with_reducible refine wpKbn ?_) | (with_reducible refine wpKk ?_) | (refine wpKt rfl ?_) | (refine wpKf rfl ?_) | (with_reducible refine wpKr ?_) | ((with_reducible refine wpKd ?_ ?_); kernel_rfl) | (with_reducible refine wpKn ?_) | (with_reducible refine seqKn ?_) | (with_reducible refine drawKn ?_) | (first | refine seqKs rfl rfl rfl rfl ?_ | refine seqKu rfl rfl rfl rfl ?_ | refine drawKs rfl rfl rfl rfl ?_ | refine drawKu rfl rfl rfl rfl ?_) | ((first | refine seqK rfl rfl (fun K' hK => ?_) | refine seqKr rfl rfl rfl rfl (fun K' hK => ?_)); refine stp ?_; with_reducible refine hK _ _ ?_; clear hK K') | ((first | refine drawK rfl rfl (fun K' hK => ?_) | refine drawKr rfl rfl rfl rfl (fun K' hK => ?_)); refine stp ?_; with_reducible refine hK _ _ _ ?_; clear hK K') | (refine seqKz rfl rfl (fun K' hK => ?_); refine stp ?_; with_reducible refine hK _ ?_; clear hK K') | (refine drawKz rfl rfl (fun K' hK => ?_); refine stp ?_; with_reducible refine hK _ _ ?_; clear hK K'))
        generalize decide ((h : Int) = hh - h) = u2 at *
        cases u2
        · repeat (first | (with_reducible refine wpKs ?_) | (with_reducible refine wpKb ?_) | (with_reducible refine wpKbn ?_) | (with_reducible refine wpKk ?_) | (refine wpKt rfl ?_) | (refine wpKf rfl ?_) | (with_reducible refine wpKr ?_) | ((with_reducible refine wpKd ?_ ?_); kernel_rfl) | (with_reducible refine wpKn ?_) | (with_reducible refine seqKn ?_) | (with_reducible refine drawKn ?_) | (first | refine seqKs rfl rfl rfl rfl ?_ | refine seqKu rfl rfl rfl rfl ?_ | refine drawKs rfl rfl rfl rfl ?_ | refine drawKu rfl rfl rfl rfl ?_) | ((first | refine seqK rfl rfl (fun K' hK => ?_) | refine seqKr rfl rfl rfl rfl (fun K' hK => ?_)); refine stp ?_; with_reducible refine hK _ _ ?_; clear hK K') | ((first | refine drawK rfl rfl (fun K' hK => ?_) | refine drawKr rfl rfl rfl rfl (fun K' hK => ?_)); refine stp ?_; with_reducible refine hK _ _ _ ?_; clear hK K') | (refine seqKz rfl rfl (fun K' hK => ?_); refine stp ?_; with_reducible refine hK _ ?_; clear hK K') | (refine drawKz rfl rfl (fun K' hK => ?_); refine stp ?_; with_reducible refine hK _ _ ?_; clear hK K'))
          refine stp ?_; try with_reducible exact True.intro
          replace hd : d2 (hh, 0, bb) h (b + 1) = d2 (hh, 0, bb) h b := by rw [hd, hk, ho]; simp
          refine ⟨b + 1, ?_, by omega, by dsimp only; omega⟩
          dsimp only
          rw [hd]
          exact ⟨.frz [], [0, 1], ⟨rfl, rfl, rfl, rfl, trivial⟩, ⟨rfl, rfl, trivial⟩, by decide, rfl, rfl, rfl⟩
        · repeat (first | (with_reducible refine wpKs ?_) | (with_reducible refine wpKb ?_) | (with_reducible refine wpKbn ?_) | (with_reducible refine wpKk ?_) | (refine wpKt rfl ?_) | (refine wpKf rfl ?_) | (with_reducible refine wpKr ?_) | ((with_reducible refine wpKd ?_ ?_); kernel_rfl) | (with_reducible refine wpKn ?_) | (with_reducible refine seqKn ?_) | (with_reducible refine drawKn ?_) | (first | refine seqKs rfl rfl rfl rfl ?_ | refine seqKu rfl rfl rfl rfl ?_ | refine drawKs rfl rfl rfl rfl ?_ | refine drawKu rfl rfl rfl rfl ?_) | ((first | refine seqK rfl rfl (fun K' hK => ?_) | refine seqKr rfl rfl rfl rfl (fun K' hK => ?_)); refine stp ?_; with_reducible refine hK _ _ ?_; clear hK K') | ((first | refine drawK rfl rfl (fun K' hK => ?_) | refine drawKr rfl rfl rfl rfl (fun K' hK => ?_)); refine stp ?_; with_reducible refine hK _ _ _ ?_; clear hK K') | (refine seqKz rfl rfl (fun K' hK => ?_); refine stp ?_; with_reducible refine hK _ ?_; clear hK K') | (refine drawKz rfl rfl (fun K' hK => ?_); refine stp ?_; with_reducible refine hK _ _ ?_; clear hK K'))
          generalize decide ((b : Int) + 1 ≤ bb - b + 1) = u3 at *
          cases u3
          · repeat (first | (with_reducible refine wpKs ?_) | (with_reducible refine wpKb ?_) | (with_reducible refine wpKbn ?_) | (with_reducible refine wpKk ?_) | (refine wpKt rfl ?_) | (refine wpKf rfl ?_) | (with_reducible refine wpKr ?_) | ((with_reducible refine wpKd ?_ ?_); kernel_rfl) | (with_reducible refine wpKn ?_) | (with_reducible refine seqKn ?_) | (with_reducible refine drawKn ?_) | (first | refine seqKs rfl rfl rfl rfl ?_ | refine seqKu rfl rfl rfl rfl ?_ | refine drawKs rfl rfl rfl rfl ?_ | refine drawKu rfl rfl rfl rfl ?_) | ((first | refine seqK rfl rfl (fun K' hK => ?_) | refine seqKr rfl rfl rfl rfl (fun K' hK => ?_)); refine stp ?_; with_reducible refine hK _ _ ?_; clear hK K') | ((first | refine drawK rfl rfl (fun K' hK => ?_) | refine drawKr rfl rfl rfl rfl (fun K' hK => ?_)); refine stp ?_; with_reducible refine hK _ _ _ ?_; clear hK K') | (refine seqKz rfl rfl (fun K' hK => ?_); refine stp ?_; with_reducible refine hK _ ?_; clear hK K') | (refine drawKz rfl rfl (fun K' hK => ?_); refine stp ?_; with_reducible refine hK _ _ ?_; clear hK K'))
            refine stp ?_; try with_reducible exact True.intro
            replace hd : d2 (hh, 0, bb) h (b + 1) = d2 (hh, 0, bb) h b := by rw [hd, hk, ho]; simp
            refine ⟨b + 1, ?_, by omega, by dsimp only; omega⟩
            dsimp only
            rw [hd]
            exact ⟨.frz [], [0, 1], ⟨rfl, rfl, rfl, rfl, trivial⟩, ⟨rfl, rfl, trivial⟩, by decide, rfl, rfl, rfl⟩
          · repeat (first | (with_reducible refine wpKs ?_) | (with_reducible refine wpKb ?_) | (with_reducible refine wpKbn ?_) | (with_reducible refine wpKk ?_) | (refine wpKt rfl ?_) | (refine wpKf rfl ?_) | (with_reducible refine wpKr ?_) | ((with_reducible refine wpKd ?_ ?_); kernel_rfl) | (with_reducible refine wpKn ?_) | (with_reducible refine seqKn ?_) | (with_reducible refine drawKn ?_) | (first | refine seqKs rfl rfl rfl rfl ?_ | refine seqKu rfl rfl rfl rfl ?_ | refine drawKs rfl rfl rfl rfl ?_ | refine drawKu rfl rfl rfl rfl ?_) | ((first | refine seqK rfl rfl (fun K' hK => ?_) | refine seqKr rfl rfl rfl rfl (fun K' hK => ?_)); refine stp ?_; with_reducible refine hK _ _ ?_; clear hK K') | ((first | refine drawK rfl rfl (fun K' hK => ?_) | refine drawKr rfl rfl rfl rfl (fun K' hK => ?_)); refine stp ?_; with_reducible refine hK _ _ _ ?_; clear hK K') | (refine seqKz rfl rfl (fun K' hK => ?_); refine stp ?_; with_reducible refine hK _ ?_; clear hK K') | (refine drawKz rfl rfl (fun K' hK => ?_); refine stp ?_; with_reducible refine hK _ _ ?_; clear hK K'))
            (first | refine seqK rfl rfl (fun K' hK => ?_) | refine seqKr rfl rfl rfl rfl (fun K' hK => ?_)); (conv => whnf); refine useT (w1.toT) ?_ ⟨⟨rfl, rfl, rfl, trivial⟩, trivial⟩; with_reducible refine hK _ _ ?_; clear hK K'; repeat (first | (with_reducible refine wpKs ?_) | (with_reducible refine wpKb ?_) | (with_reducible refine wpKbn ?_) | (with_reducible refine wpKk ?_) | (refine wpKt rfl ?_) | (refine wpKf rfl ?_) | (with_reducible refine wpKr ?_) | ((with_reducible refine wpKd ?_ ?_); kernel_rfl) | (with_reducible refine wpKn ?_) | (with_reducible refine seqKn ?_) | (with_reducible refine drawKn ?_) | (first | refine seqKs rfl rfl rfl rfl ?_ | refine seqKu rfl rfl rfl rfl ?_ | refine drawKs rfl rfl rfl rfl ?_ | refine drawKu rfl rfl rfl rfl ?_) | ((first | refine seqK rfl rfl (fun K' hK => ?_) | refine seqKr rfl rfl rfl rfl (fun K' hK => ?_)); refine stp ?_; with_reducible refine hK _ _ ?_; clear hK K') | ((first | refine drawK rfl rfl (fun K' hK => ?_) | refine drawKr rfl rfl rfl rfl (fun K' hK => ?_)); refine stp ?_; with_reducible refine hK _ _ _ ?_; clear hK K') | (refine seqKz rfl rfl (fun K' hK => ?_); refine stp ?_; with_reducible refine hK _ ?_; clear hK K') | (refine drawKz rfl rfl (fun K' hK => ?_); refine stp ?_; with_reducible refine hK _ _ ?_; clear hK K'))
            cases p1
            · repeat (first | (with_reducible refine wpKs ?_) | (with_reducible refine wpKb ?_) | (with_reducible refine wpKbn ?_) | (with_reducible refine wpKk ?_) | (refine wpKt rfl ?_) | (refine wpKf rfl ?_) | (with_reducible refine wpKr ?_) | ((with_reducible refine wpKd ?_ ?_); kernel_rfl) | (with_reducible refine wpKn ?_) | (with_reducible refine seqKn ?_) | (with_reducible refine drawKn ?_) | (first | refine seqKs rfl rfl rfl rfl ?_ | refine seqKu rfl rfl rfl rfl ?_ | refine drawKs rfl rfl rfl rfl ?_ | refine drawKu rfl rfl rfl rfl ?_) | ((first | refine seqK rfl rfl (fun K' hK => ?_) | refine seqKr rfl rfl rfl rfl (fun K' hK => ?_)); refine stp ?_; with_reducible refine hK _ _ ?_; clear hK K') | ((first | refine drawK rfl rfl (fun K' hK => ?_) | refine drawKr rfl rfl rfl rfl (fun K' hK => ?_)); refine stp ?_; with_reducible refine hK _ _ _ ?_; clear hK K') | (refine seqKz rfl rfl (fun K' hK => ?_); refine stp ?_; with_reducible refine hK _ ?_; clear hK K') | (refine drawKz rfl rfl (fun K' hK => ?_); refine stp ?_; with_reducible refine hK _ _ ?_; clear hK K'))
              refine stp ?_; try with_reducible exact True.intro
              replace hd : d2 (hh, 0, bb) h (b + 1) = d2 (hh, 0, bb) h b := by rw [hd, hk, ho]; simp
              refine ⟨b + 1, ?_, by omega, by dsimp only; omega⟩
              dsimp only
              rw [hd]
              exact ⟨.frz [], [0, 1], ⟨rfl, rfl, rfl, rfl, trivial⟩, ⟨rfl, rfl, trivial⟩, by decide, rfl, rfl, rfl⟩
            · repeat (first | (with_reducible refine wpKs ?_) | (with_reducible refine wpKb ?_) | (with_reducible refine wpKbn ?_) | (with_reducible refine wpKk ?_) | (refine wpKt rfl ?_) | (refine wpKf rfl ?_) | (with_reducible refine wpKr ?_) | ((with_reducible refine wpKd ?_ ?_); kernel_rfl) | (with_reducible refine wpKn ?_) | (with_reducible refine seqKn ?_) | (with_reducible refine drawKn ?_) | (first | refine seqKs rfl rfl rfl rfl ?_ | refine seqKu rfl rfl rfl rfl ?_ | refine drawKs rfl rfl rfl rfl ?_ | refine drawKu rfl rfl rfl rfl ?_) | ((first | refine seqK rfl rfl (fun K' hK => ?_) | refine seqKr rfl rfl rfl rfl (fun K' hK => ?_)); refine stp ?_; with_reducible refine hK _ _ ?_; clear hK K') | ((first | refine drawK rfl rfl (fun K' hK => ?_) | refine drawKr rfl rfl rfl rfl (fun K' hK => ?_)); refine stp ?_; with_reducible refine hK _ _ _ ?_; clear hK K') | (refine seqKz rfl rfl (fun K' hK => ?_); refine stp ?_; with_reducible refine hK _ ?_; clear hK K') | (refine drawKz rfl rfl (fun K' hK => ?_); refine stp ?_; with_reducible refine hK _ _ ?_; clear hK K'))
              (first | refine seqK rfl rfl (fun K' hK => ?_) | refine seqKr rfl rfl rfl rfl (fun K' hK => ?_)); (conv => whnf); refine useT (w2.toT) ?_ ⟨⟨rfl, rfl, rfl, trivial⟩, trivial⟩; with_reducible refine hK _ _ ?_; clear hK K'; repeat (first | (with_reducible refine wpKs ?_) | (with_reducible refine wpKb ?_) | (with_reducible refine wpKbn ?_) | (with_reducible refine wpKk ?_) | (refine wpKt rfl ?_) | (refine wpKf rfl ?_) | (with_reducible refine wpKr ?_) | ((with_reducible refine wpKd ?_ ?_); kernel_rfl) | (with_reducible refine wpKn ?_) | (with_reducible refine seqKn ?_) | (with_reducible refine drawKn ?_) | (first | refine seqKs rfl rfl rfl rfl ?_ | refine seqKu rfl rfl rfl rfl ?_ | refine drawKs rfl rfl rfl rfl ?_ | refine drawKu rfl rfl rfl rfl ?_) | ((first | refine seqK rfl rfl (fun K' hK => ?_) | refine seqKr rfl rfl rfl rfl (fun K' hK => ?_)); refine stp ?_; with_reducible refine hK _ _ ?_; clear hK K') | ((first | refine drawK rfl rfl (fun K' hK => ?_) | refine drawKr rfl rfl rfl rfl (fun K' hK => ?_)); refine stp ?_; with_reducible refine hK _ _ _ ?_; clear hK K') | (refine seqKz rfl rfl (fun K' hK => ?_); refine stp ?_; with_reducible refine hK _ ?_; clear hK K') | (refine drawKz rfl rfl (fun K' hK => ?_); refine stp ?_; with_reducible refine hK _ _ ?_; clear hK K'))
              cases p2
              · repeat (first | (with_reducible refine wpKs ?_) | (with_reducible refine wpKb ?_) | (with_reducible refine wpKbn ?_) | (with_reducible refine wpKk ?_) | (refine wpKt rfl ?_) | (refine wpKf rfl ?_) | (with_reducible refine wpKr ?_) | ((with_reducible refine wpKd ?_ ?_); kernel_rfl) | (with_reducible refine wpKn ?_) | (with_reducible refine seqKn ?_) | (with_reducible refine drawKn ?_) | (first | refine seqKs rfl rfl rfl rfl ?_ | refine seqKu rfl rfl rfl rfl ?_ | refine drawKs rfl rfl rfl rfl ?_ | refine drawKu rfl rfl rfl rfl ?_) | ((first | refine seqK rfl rfl (fun K' hK => ?_) | refine seqKr rfl rfl rfl rfl (fun K' hK => ?_)); refine stp ?_; with_reducible refine hK _ _ ?_; clear hK K') | ((first | refine drawK rfl rfl (fun K' hK => ?_) | refine drawKr rfl rfl rfl rfl (fun K' hK => ?_)); refine stp ?_; with_reducible refine hK _ _ _ ?_; clear hK K') | (refine seqKz rfl rfl (fun K' hK => ?_); refine stp ?_; with_reducible refine hK _ ?_; clear hK K') | (refine drawKz rfl rfl (fun K' hK => ?_); refine stp ?_; with_reducible refine hK _ _ ?_; clear hK K'))
                refine stp ?_; try with_reducible exact True.intro
                replace hd : d2 (hh, 0, bb) h (b + 1) = d2 (hh, 0, bb) h b := by rw [hd, hk, ho]; simp
                refine ⟨b + 1, ?_, by omega, by dsimp only; omega⟩
                dsimp only
                rw [hd]
                exact ⟨.frz [], [0, 1], ⟨rfl, rfl, rfl, rfl, trivial⟩, ⟨rfl, rfl, trivial⟩, by decide, rfl, rfl, rfl⟩
              · repeat (first | (with_reducible refine wpKs ?_) | (with_reducible refine wpKb ?_) | (with_reducible refine wpKbn ?_) | (with_reducible refine wpKk ?_) | (refine wpKt rfl ?_) | (refine wpKf rfl ?_) | (with_reducible refine wpKr ?_) | ((with_reducible refine wpKd ?_ ?_); kernel_rfl) | (with_reducible refine wpKn ?_) | (with_reducible refine seqKn ?_) | (with_reducible refine drawKn ?_) | (first | refine seqKs rfl rfl rfl rfl ?_ | refine seqKu rfl rfl rfl rfl ?_ | refine drawKs rfl rfl rfl rfl ?_ | refine drawKu rfl rfl rfl rfl ?_) | ((first | refine seqK rfl rfl (fun K' hK => ?_) | refine seqKr rfl rfl rfl rfl (fun K' hK => ?_)); refine stp ?_; with_reducible refine hK _ _ ?_; clear hK K') | ((first | refine drawK rfl rfl (fun K' hK => ?_) | refine drawKr rfl rfl rfl rfl (fun K' hK => ?_)); refine stp ?_; with_reducible refine hK _ _ _ ?_; clear hK K') | (refine seqKz rfl rfl (fun K' hK => ?_); refine stp ?_; with_reducible refine hK _ ?_; clear hK K') | (refine drawKz rfl rfl (fun K' hK => ?_); refine stp ?_; with_reducible refine hK _ _ ?_; clear hK K'))
                (first | refine seqK rfl rfl (fun K' hK => ?_) | refine seqKr rfl rfl rfl rfl (fun K' hK => ?_)); (conv => whnf); refine useT (w3.toT) ?_ ⟨⟨rfl, rfl, rfl, trivial⟩, trivial⟩; with_reducible refine hK _ _ ?_; clear hK K'; repeat (first | (with_reducible refine wpKs ?_) | (with_reducible refine wpKb ?_) | (with_reducible refine wpKbn ?_) | (with_reducible refine wpKk ?_) | (refine wpKt rfl ?_) | (refine wpKf rfl ?_) | (with_reducible refine wpKr ?_) | ((with_reducible refine wpKd ?_ ?_); kernel_rfl) | (with_reducible refine wpKn ?_) | (with_reducible refine seqKn ?_) | (with_reducible refine drawKn ?_) | (first | refine seqKs rfl rfl rfl rfl ?_ | refine seqKu rfl rfl rfl rfl ?_ | refine drawKs rfl rfl rfl rfl ?_ | refine drawKu rfl rfl rfl rfl ?_) | ((first | refine seqK rfl rfl (fun K' hK => ?_) | refine seqKr rfl rfl rfl rfl (fun K' hK => ?_)); refine stp ?_; with_reducible refine hK _ _ ?_; clear hK K') | ((first | refine drawK rfl rfl (fun K' hK => ?_) | refine drawKr rfl rfl rfl rfl (fun K' hK => ?_)); refine stp ?_; with_reducible refine hK _ _ _ ?_; clear hK K') | (refine seqKz rfl rfl (fun K' hK => ?_); refine stp ?_; with_reducible refine hK _ ?_; clear hK K') | (refine drawKz rfl rfl (fun K' hK => ?_); refine stp ?_; with_reducible refine hK _ _ ?_; clear hK K'))
                cases p3
                · repeat (first | (with_reducible refine wpKs ?_) | (with_reducible refine wpKb ?_) | (with_reducible refine wpKbn ?_) | (with_reducible refine wpKk ?_) | (refine wpKt rfl ?_) | (refine wpKf rfl ?_) | (with_reducible refine wpKr ?_) | ((with_reducible refine wpKd ?_ ?_); kernel_rfl) | (with_reducible refine wpKn ?_) | (with_reducible refine seqKn ?_) | (with_reducible refine drawKn ?_) | (first | refine seqKs rfl rfl rfl rfl ?_ | refine seqKu rfl rfl rfl rfl ?_ | refine drawKs rfl rfl rfl rfl ?_ | refine drawKu rfl rfl rfl rfl ?_) | ((first | refine seqK rfl rfl (fun K' hK => ?_) | refine seqKr rfl rfl rfl rfl (fun K' hK => ?_)); refine stp ?_; with_reducible refine hK _ _ ?_; clear hK K') | ((first | refine drawK rfl rfl (fun K' hK => ?_) | refine drawKr rfl rfl rfl rfl (fun K' hK => ?_)); refine stp ?_; with_reducible refine hK _ _ _ ?_; clear hK K') | (refine seqKz rfl rfl (fun K' hK => ?_); refine stp ?_; with_reducible refine hK _ ?_; clear hK K') | (refine drawKz rfl rfl (fun K' hK => ?_); refine stp ?_; with_reducible refine hK _ _ ?_; clear hK K'))
                  (first | refine seqK rfl rfl (fun K' hK => ?_) | refine seqKr rfl rfl rfl rfl (fun K' hK => ?_)); (conv => whnf); refine useT (w4.toT) ?_ ⟨⟨rfl, rfl, rfl, trivial⟩, trivial⟩; with_reducible refine hK _ _ ?_; clear hK K'; repeat (first | (with_reducible refine wpKs ?_) | (with_reducible refine wpKb ?_) | (with_reducible refine wpKbn ?_) | (with_reducible refine wpKk ?_) | (refine wpKt rfl ?_) | (refine wpKf rfl ?_) | (with_reducible refine wpKr ?_) | ((with_reducible refine wpKd ?_ ?_); kernel_rfl) | (with_reducible refine wpKn ?_) | (with_reducible refine seqKn ?_) | (with_reducible refine drawKn ?_) | (first | refine seqKs rfl rfl rfl rfl ?_ | refine seqKu rfl rfl rfl rfl ?_ | refine drawKs rfl rfl rfl rfl ?_ | refine drawKu rfl rfl rfl rfl ?_) | ((first | refine seqK rfl rfl (fun K' hK => ?_) | refine seqKr rfl rfl rfl rfl (fun K' hK => ?_)); refine stp ?_; with_reducible refine hK _ _ ?_; clear hK K') | ((first | refine drawK rfl rfl (fun K' hK => ?_) | refine drawKr rfl rfl rfl rfl (fun K' hK => ?_)); refine stp ?_; with_reducible refine hK _ _ _ ?_; clear hK K') | (refine seqKz rfl rfl (fun K' hK => ?_); refine stp ?_; with_reducible refine hK _ ?_; clear hK K') | (refine drawKz rfl rfl (fun K' hK => ?_); refine stp ?_; with_reducible refine hK _ _ ?_; clear hK K'))
                  cases p4
                  · repeat (first | (with_reducible refine wpKs ?_) | (with_reducible refine wpKb ?_) | (with_reducible refine wpKbn ?_) | (with_reducible refine wpKk ?_) | (refine wpKt rfl ?_) | (refine wpKf rfl ?_) | (with_reducible refine wpKr ?_) | ((with_reducible refine wpKd ?_ ?_); kernel_rfl) | (with_reducible refine wpKn ?_) | (with_reducible refine seqKn ?_) | (with_reducible refine drawKn ?_) | (first | refine seqKs rfl rfl rfl rfl ?_ | refine seqKu rfl rfl rfl rfl ?_ | refine drawKs rfl rfl rfl rfl ?_ | refine drawKu rfl rfl rfl rfl ?_) | ((first | refine seqK rfl rfl (fun K' hK => ?_) | refine seqKr rfl rfl rfl rfl (fun K' hK => ?_)); refine stp ?_; with_reducible refine hK _ _ ?_; clear hK K') | ((first | refine drawK rfl rfl (fun K' hK => ?_) | refine drawKr rfl rfl rfl rfl (fun K' hK => ?_)); refine stp ?_; with_reducible refine hK _ _ _ ?_; clear hK K') | (refine seqKz rfl rfl (fun K' hK => ?_); refine stp ?_; with_reducible refine hK _ ?_; clear hK K') | (refine drawKz rfl rfl (fun K' hK => ?_); refine stp ?_; with_reducible refine hK _ _ ?_; clear hK K'))
                    refine stp ?_; try with_reducible exact True.intro
                    refine Or.inr ?_; refine stp ?_; try with_reducible exact True.intro
                    refine Or.inr ?_; refine stp ?_; try with_reducible exact True.intro
                    replace hd : d2 (hh, 0, bb) h (b + 1) = d2 (hh, 0, bb) h b ++ [prD (hh, 0, bb) h b] := by rw [hd, hk, ho]; rfl
                    refine ⟨b + 1, ?_, by omega, by dsimp only; omega⟩
                    dsimp only
                    rw [hd, ← List.append_assoc]
                    refine ⟨.frz [], [0, 6], ⟨rfl, ?_, rfl, rfl, trivial⟩, ⟨rfl, ?_, trivial⟩, by decide, rfl, rfl, rfl⟩
                    · show V.own 6 0 _ = V.own 6 0 _
                      congr 1; simp; omega
                    · refine congrArg (fun x => some (Obj.arr (.list sqT) x false)) ?_
                      simp
                      rw [List.take_of_length_le (by simp only [List.length_append]; omega), List.append_assoc]
                      rfl
                  · repeat (first | (with_reducible refine wpKs ?_) | (with_reducible refine wpKb ?_) | (with_reducible refine wpKbn ?_) | (with_reducible refine wpKk ?_) | (refine wpKt rfl ?_) | (refine wpKf rfl ?_) | (with_reducible refine wpKr ?_) | ((with_reducible refine wpKd ?_ ?_); kernel_rfl) | (with_reducible refine wpKn ?_) | (with_reducible refine seqKn ?_) | (with_reducible refine drawKn ?_) | (first | refine seqKs rfl rfl rfl rfl ?_ | refine seqKu rfl rfl rfl rfl ?_ | refine drawKs rfl rfl rfl rfl ?_ | refine drawKu rfl rfl rfl rfl ?_) | ((first | refine seqK rfl rfl (fun K' hK => ?_) | refine seqKr rfl rfl rfl rfl (fun K' hK => ?_)); refine stp ?_; with_reducible refine hK _ _ ?_; clear hK K') | ((first | refine drawK rfl rfl (fun K' hK => ?_) | refine drawKr rfl rfl rfl rfl (fun K' hK => ?_)); refine stp ?_; with_reducible refine hK _ _ _ ?_; clear hK K') | (refine seqKz rfl rfl (fun K' hK => ?_); refine stp ?_; with_reducible refine hK _ ?_; clear hK K') | (refine drawKz rfl rfl (fun K' hK => ?_); refine stp ?_; with_reducible refine hK _ _ ?_; clear hK K'))
                    refine stp ?_; try with_reducible exact True.intro
                    replace hd : d2 (hh, 0, bb) h (b + 1) = d2 (hh, 0, bb) h b := by rw [hd, hk, ho]; simp
                    refine ⟨b + 1, ?_, by omega, by dsimp only; omega⟩
                    dsimp only
                    rw [hd]
                    exact ⟨.frz [], [0, 1], ⟨rfl, rfl, rfl, rfl, trivial⟩, ⟨rfl, rfl, trivial⟩, by decide, rfl, rfl, rfl⟩
                · repeat (first | (with_reducible refine wpKs ?_) | (with_reducible refine wpKb ?_) | (with_reducible refine wpKbn ?_) | (with_reducible refine wpKk ?_) | (refine wpKt rfl ?_) | (refine wpKf rfl ?_) | (with_reducible refine wpKr ?_) | ((with_reducible refine wpKd ?_ ?_); kernel_rfl) | (with_reducible refine wpKn ?_) | (with_reducible refine seqKn ?_) | (with_reducible refine drawKn ?_) | (first | refine seqKs rfl rfl rfl rfl ?_ | refine seqKu rfl rfl rfl rfl ?_ | refine drawKs rfl rfl rfl rfl ?_ | refine drawKu rfl rfl rfl rfl ?_) | ((first | refine seqK rfl rfl (fun K' hK => ?_) | refine seqKr rfl rfl rfl rfl (fun K' hK => ?_)); refine stp ?_; with_reducible refine hK _ _ ?_; clear hK K') | ((first | refine drawK rfl rfl (fun K' hK => ?_) | refine drawKr rfl rfl rfl rfl (fun K' hK => ?_)); refine stp ?_; with_reducible refine hK _ _ _ ?_; clear hK K') | (refine seqKz rfl rfl (fun K' hK => ?_); refine stp ?_; with_reducible refine hK _ ?_; clear hK K') | (refine drawKz rfl rfl (fun K' hK => ?_); refine stp ?_; with_reducible refine hK _ _ ?_; clear hK K'))
                  refine stp ?_; try with_reducible exact True.intro
                  replace hd : d2 (hh, 0, bb) h (b + 1) = d2 (hh, 0, bb) h b := by rw [hd, hk, ho]; simp
                  refine ⟨b + 1, ?_, by omega, by dsimp only; omega⟩
                  dsimp only
                  rw [hd]
                  exact ⟨.frz [], [0, 1], ⟨rfl, rfl, rfl, rfl, trivial⟩, ⟨rfl, rfl, trivial⟩, by decide, rfl, rfl, rfl⟩
      · repeat (first | (with_reducible refine wpKs ?_) | (with_reducible refine wpKb ?_) | (with_reducible refine wpKbn ?_) | (with_reducible refine wpKk ?_) | (refine wpKt rfl ?_) | (refine wpKf rfl ?_) | (with_reducible refine wpKr ?_) | ((with_reducible refine wpKd ?_ ?_); kernel_rfl) | (with_reducible refine wpKn ?_) | (with_reducible refine seqKn ?_) | (with_reducible refine drawKn ?_) | (first | refine seqKs rfl rfl rfl rfl ?_ | refine seqKu rfl rfl rfl rfl ?_ | refine drawKs rfl rfl rfl rfl ?_ | refine drawKu rfl rfl rfl rfl ?_) | ((first | refine seqK rfl rfl (fun K' hK => ?_) | refine seqKr rfl rfl rfl rfl (fun K' hK => ?_)); refine stp ?_; with_reducible refine hK _ _ ?_; clear hK K') | ((first | refine drawK rfl rfl (fun K' hK => ?_) | refine drawKr rfl rfl rfl rfl (fun K' hK => ?_)); refine stp ?_; with_reducible refine hK _ _ _ ?_; clear hK K') | (refine seqKz rfl rfl (fun K' hK => ?_); refine stp ?_; with_reducible refine hK _ ?_; clear hK K') | (refine drawKz rfl rfl (fun K' hK => ?_); refine stp ?_; with_reducible refine hK _ _ ?_; clear hK K'))
        (first | refine seqK rfl rfl (fun K' hK => ?_) | refine seqKr rfl rfl rfl rfl (fun K' hK => ?_)); (conv => whnf); refine useT (w1.toT) ?_ ⟨⟨rfl, rfl, rfl, trivial⟩, trivial⟩; with_reducible refine hK _ _ ?_; clear hK K'; repeat (first | (with_reducible refine wpKs ?_) | (with_reducible refine wpKb ?_) | (with_reducible refine wpKbn ?_) | (with_reducible refine wpKk ?_) | (refine wpKt rfl ?_) | (refine wpKf rfl ?_) | (with_reducible refine wpKr ?_) | ((with_reducible refine wpKd ?_ ?_); kernel_rfl) | (with_reducible refine wpKn ?_) | (with_reducible refine seqKn ?_) | (with_reducible refine drawKn ?_) | (first | refine seqKs rfl rfl rfl rfl ?_ | refine seqKu rfl rfl rfl rfl ?_ | refine drawKs rfl rfl rfl rfl ?_ | refine drawKu rfl rfl rfl rfl ?_) | ((first | refine seqK rfl rfl (fun K' hK => ?_) | refine seqKr rfl rfl rfl rfl (fun K' hK => ?_)); refine stp ?_; with_reducible refine hK _ _ ?_; clear hK K') | ((first | refine drawK rfl rfl (fun K' hK => ?_) | refine drawKr rfl rfl rfl rfl (fun K' hK => ?_)); refine stp ?_; with_reducible refine hK _ _ _ ?_; clear hK K') | (refine seqKz rfl rfl (fun K' hK => ?_); refine stp ?_; with_reducible refine hK _ ?_; clear hK K') | (refine drawKz rfl rfl (fun K' hK => ?_); refine stp ?_; with_reducible refine hK _ _ ?_; clear hK K'))
        cases p1
        · repeat (first | (with_reducible refine wpKs ?_) | (with_reducible refine wpKb ?_) | (with_reducible refine wpKbn ?_) | (with_reducible refine wpKk ?_) | (refine wpKt rfl ?_) | (refine wpKf rfl ?_) | (with_reducible refine wpKr ?_) | ((with_reducible refine wpKd ?_ ?_); kernel_rfl) | (with_reducible refine wpKn ?_) | (with_reducible refine seqKn ?_) | (with_reducible refine drawKn ?_) | (first | refine seqKs rfl rfl rfl rfl ?_ | refine seqKu rfl rfl rfl rfl ?_ | refine drawKs rfl rfl rfl rfl ?_ | refine drawKu rfl rfl rfl rfl ?_) | ((first | refine seqK rfl rfl (fun K' hK => ?_) | refine seqKr rfl rfl rfl rfl (fun K' hK => ?_)); refine stp ?_; with_reducible refine hK _ _ ?_; clear hK K') | ((first | refine drawK rfl rfl (fun K' hK => ?_) | refine drawKr rfl rfl rfl rfl (fun K' hK => ?_)); refine stp ?_; with_reducible refine hK _ _ _ ?_; clear hK K') | (refine seqKz rfl rfl (fun K' hK => ?_); refine stp ?_; with_reducible refine hK _ ?_; clear hK K') | (refine drawKz rfl rfl (fun K' hK => ?_); refine stp ?_; with_reducible refine hK _ _ ?_; clear hK K'))
          refine stp ?_; try with_reducible exact True.intro
          replace hd : d2 (hh, 0, bb) h (b + 1) = d2 (hh, 0, bb) h b := by rw [hd, hk, ho]; simp
          refine ⟨b + 1, ?_, by omega, by dsimp only; omega⟩
          dsimp only
          rw [hd]
          exact ⟨.frz [], [0, 1], ⟨rfl, rfl, rfl, rfl, trivial⟩, ⟨rfl, rfl, trivial⟩, by decide, rfl, rfl, rfl⟩
        · repeat (first | (with_reducible refine wpKs ?_) | (with_reducible refine wpKb ?_) | (with_reducible refine wpKbn ?_) | (with_reducible refine wpKk ?_) | (refine wpKt rfl ?_) | (refine wpKf rfl ?_) | (with_reducible refine wpKr ?_) | ((with_reducible refine wpKd ?_ ?_); kernel_rfl) | (with_reducible refine wpKn ?_) | (with_reducible refine seqKn ?_) | (with_reducible refine drawKn ?_) | (first | refine seqKs rfl rfl rfl rfl ?_ | refine seqKu rfl rfl rfl rfl ?_ | refine drawKs rfl rfl rfl rfl ?_ | refine drawKu rfl rfl rfl rfl ?_) | ((first | refine seqK rfl rfl (fun K' hK => ?_) | refine seqKr rfl rfl rfl rfl (fun K' hK => ?_)); refine stp ?_; with_reducible refine hK _ _ ?_; clear hK K') | ((first | refine drawK rfl rfl (fun K' hK => ?_) | refine drawKr rfl rfl rfl rfl (fun K' hK => ?_)); refine stp ?_; with_reducible refine hK _ _ _ ?_; clear hK K') | (refine seqKz rfl rfl (fun K' hK => ?_); refine stp ?_; with_reducible refine hK _ ?_; clear hK K') | (refine drawKz rfl rfl (fun K' hK => ?_); refine stp ?_; with_reducible refine hK _ _ ?_; clear hK K'))
          (first | refine seqK rfl rfl (fun K' hK => ?_) | refine seqKr rfl rfl rfl rfl (fun K' hK => ?_)); (conv => whnf); refine useT (w2.toT) ?_ ⟨⟨rfl, rfl, rfl, trivial⟩, trivial⟩; with_reducible refine hK _ _ ?_; clear hK K'; repeat (first | (with_reducible refine wpKs ?_) | (with_reducible refine wpKb ?_) | (with_reducible refine wpKbn ?_) | (with_reducible refine wpKk ?_) | (refine wpKt rfl ?_) | (refine wpKf rfl ?_) | (with_reducible refine wpKr ?_) | ((with_reducible refine wpKd ?_ ?_); kernel_rfl) | (with_reducible refine wpKn ?_) | (with_reducible refine seqKn ?_) | (with_reducible refine drawKn ?_) | (first | refine seqKs rfl rfl rfl rfl ?_ | refine seqKu rfl rfl rfl rfl ?_ | refine drawKs rfl rfl rfl rfl ?_ | refine drawKu rfl rfl rfl rfl ?_) | ((first | refine seqK rfl rfl (fun K' hK => ?_) | refine seqKr rfl rfl rfl rfl (fun K' hK => ?_)); refine stp ?_; with_reducible refine hK _ _ ?_; clear hK K') | ((first | refine drawK rfl rfl (fun K' hK => ?_) | refine drawKr rfl rfl rfl rfl (fun K' hK => ?_)); refine stp ?_; with_reducible refine hK _ _ _ ?_; clear hK K') | (refine seqKz rfl rfl (fun K' hK => ?_); refine stp ?_; with_reducible refine hK _ ?_; clear hK K') | (refine drawKz rfl rfl (fun K' hK => ?_); refine stp ?_; with_reducible refine hK _ _ ?_; clear hK K'))
          cases p2
          · repeat (first | (with_reducible refine wpKs ?_) | (with_reducible refine wpKb ?_) | (with_reducible refine wpKbn ?_) | (with_reducible refine wpKk ?_) | (refine wpKt rfl ?_) | (refine wpKf rfl ?_) | (with_reducible refine wpKr ?_) | ((with_reducible refine wpKd ?_ ?_); kernel_rfl) | (with_reducible refine wpKn ?_) | (with_reducible refine seqKn ?_) | (with_reducible refine drawKn ?_) | (first | refine seqKs rfl rfl rfl rfl ?_ | refine seqKu rfl rfl rfl rfl ?_ | refine drawKs rfl rfl rfl rfl ?_ | refine drawKu rfl rfl rfl rfl ?_) | ((first | refine seqK rfl rfl (fun K' hK => ?_) | refine seqKr rfl rfl rfl rfl (fun K' hK => ?_)); refine stp ?_; with_reducible refine hK _ _ ?_; clear hK K') | ((first | refine drawK rfl rfl (fun K' hK => ?_) | refine drawKr rfl rfl rfl rfl (fun K' hK => ?_)); refine stp ?_; with_reducible refine hK _ _ _ ?_; clear hK K') | (refine seqKz rfl rfl (fun K' hK => ?_); refine stp ?_; with_reducible refine hK _ ?_; clear hK K') | (refine drawKz rfl rfl (fun K' hK => ?_); refine stp ?_; with_reducible refine hK _ _ ?_; clear hK K'))
            refine stp ?_; try with_reducible exact True.intro
            replace hd : d2 (hh, 0, bb) h (b + 1) = d2 (hh, 0, bb) h b := by rw [hd, hk, ho]; simp
            refine ⟨b + 1, ?_, by omega, by dsimp only; omega⟩
            dsimp only
            rw [hd]
            exact ⟨.frz [], [0, 1], ⟨rfl, rfl, rfl, rfl, trivial⟩, ⟨rfl, rfl, trivial⟩, by decide, rfl, rfl, rfl⟩
          · repeat (first | (with_reducible refine wpKs ?_) | (with_reducible refine wpKb ?_) | (with_reducible refine wpKbn ?_) | (with_reducible refine wpKk ?_) | (refine wpKt rfl ?_) | (refine wpKf rfl ?_) | (with_reducible refine wpKr ?_) | ((with_reducible refine wpKd ?_ ?_); kernel_rfl) | (with_reducible refine wpKn ?_) | (with_reducible refine seqKn ?_) | (with_reducible refine drawKn ?_) | (first | refine seqKs rfl rfl rfl rfl ?_ | refine seqKu rfl rfl rfl rfl ?_ | refine drawKs rfl rfl rfl rfl ?_ | refine drawKu rfl rfl rfl rfl ?_) | ((first | refine seqK rfl rfl (fun K' hK => ?_) | refine seqKr rfl rfl rfl rfl (fun K' hK => ?_)); refine stp ?_; with_reducible refine hK _ _ ?_; clear hK K') | ((first | refine drawK rfl rfl (fun K' hK => ?_) | refine drawKr rfl rfl rfl rfl (fun K' hK => ?_)); refine stp ?_; with_reducible refine hK _ _ _ ?_; clear hK K') | (refine seqKz rfl rfl (fun K' hK => ?_); refine stp ?_; with_reducible refine hK _ ?_; clear hK K') | (refine drawKz rfl rfl (fun K' hK => ?_); refine stp ?_; with_reducible refine hK _ _ ?_; clear hK K'))
            (first | refine seqK rfl rfl (fun K' hK => ?_) | refine seqKr rfl rfl rfl rfl (fun K' hK => ?_)); (conv => whnf); refine useT (w3.toT) ?_ ⟨⟨rfl, rfl, rfl, trivial⟩, trivial⟩; with_reducible refine hK _ _ ?_; clear hK K'; repeat (first | (with_reducible refine wpKs ?_) | (with_reducible refine wpKb ?_) | (with_reducible refine wpKbn ?_) | (with_reducible refine wpKk ?_) | (refine wpKt rfl ?_) | (refine wpKf rfl ?_) | (with_reducible refine wpKr ?_) | ((with_reducible refine wpKd ?_ ?_); kernel_rfl) | (with_reducible refine wpKn ?_) | (with_reducible refine seqKn ?_) | (with_reducible refine drawKn ?_) | (first | refine seqKs rfl rfl rfl rfl ?_ | refine seqKu rfl rfl rfl rfl ?_ | refine drawKs rfl rfl rfl rfl ?_ | refine drawKu rfl rfl rfl rfl ?_) | ((first | refine seqK rfl rfl (fun K' hK => ?_) | refine seqKr rfl rfl rfl rfl (fun K' hK => ?_)); refine stp ?_; with_reducible refine hK _ _ ?_; clear hK K') | ((first | refine drawK rfl rfl (fun K' hK => ?_) | refine drawKr rfl rfl rfl rfl (fun K' hK => ?_)); refine stp ?_; with_reducible refine hK _ _ _ ?_; clear hK K') | (refine seqKz rfl rfl (fun K' hK => ?_); refine stp ?_; with_reducible refine hK _ ?_; clear hK K') | (refine drawKz rfl rfl (fun K' hK => ?_); refine stp ?_; with_reducible refine hK _ _ ?_; clear hK K'))
            cases p3
            · repeat (first | (with_reducible refine wpKs ?_) | (with_reducible refine wpKb ?_) | (with_reducible refine wpKbn ?_) | (with_reducible refine wpKk ?_) | (refine wpKt rfl ?_) | (refine wpKf rfl ?_) | (with_reducible refine wpKr ?_) | ((with_reducible refine wpKd ?_ ?_); kernel_rfl) | (with_reducible refine wpKn ?_) | (with_reducible refine seqKn ?_) | (with_reducible refine drawKn ?_) | (first | refine seqKs rfl rfl rfl rfl ?_ | refine seqKu rfl rfl rfl rfl ?_ | refine drawKs rfl rfl rfl rfl ?_ | refine drawKu rfl rfl rfl rfl ?_) | ((first | refine seqK rfl rfl (fun K' hK => ?_) | refine seqKr rfl rfl rfl rfl (fun K' hK => ?_)); refine stp ?_; with_reducible refine hK _ _ ?_; clear hK K') | ((first | refine drawK rfl rfl (fun K' hK => ?_) | refine drawKr rfl rfl rfl rfl (fun K' hK => ?_)); refine stp ?_; with_reducible refine hK _ _ _ ?_; clear hK K') | (refine seqKz rfl rfl (fun K' hK => ?_); refine stp ?_; with_reducible refine hK _ ?_; clear hK K') | (refine drawKz rfl rfl (fun K' hK => ?_); refine stp ?_; with_reducible refine hK _ _ ?_; clear hK K'))
              (first | refine seqK rfl rfl (fun K' hK => ?_) | refine seqKr rfl rfl rfl rfl (fun K' hK => ?_)); (conv => whnf); refine useT (w4.toT) ?_ ⟨⟨rfl, rfl, rfl, trivial⟩, trivial⟩; with_reducible refine hK _ _ ?_; clear hK K'; repeat (first | (with_reducible refine wpKs ?_) | (with_reducible refine wpKb ?_) | (with_reducible refine wpKbn ?_) | (with_reducible refine wpKk ?_) | (refine wpKt rfl ?_) | (refine wpKf rfl ?_) | (with_reducible refine wpKr ?_) | ((with_reducible refine wpKd ?_ ?_); kernel_rfl) | (with_reducible refine wpKn ?_) | (with_reducible refine seqKn ?_) | (with_reducible refine drawKn ?_) | (first | refine seqKs rfl rfl rfl rfl ?_ | refine seqKu rfl rfl rfl rfl ?_ | refine drawKs rfl rfl rfl rfl ?_ | refine drawKu rfl rfl rfl rfl ?_) | ((first | refine seqK rfl rfl (fun K' hK => ?_) | refine seqKr rfl rfl rfl rfl (fun K' hK => ?_)); refine stp ?_; with_reducible refine hK _ _ ?_; clear hK K') | ((first | refine drawK rfl rfl (fun K' hK => ?_) | refine drawKr rfl rfl rfl rfl (fun K' hK => ?_)); refine stp ?_; with_reducible refine hK _ _ _ ?_; clear hK K') | (refine seqKz rfl rfl (fun K' hK => ?_); refine stp ?_; with_reducible refine hK _ ?_; clear hK K') | (refine drawKz rfl rfl (fun K' hK => ?_); refine stp ?_; with_reducible refine hK _ _ ?_; clear hK K'))
              cases p4
              · repeat (first | (with_reducible refine wpKs ?_) | (with_reducible refine wpKb ?_) | (with_reducible refine wpKbn ?_) | (with_reducible refine wpKk ?_) | (refine wpKt rfl ?_) | (refine wpKf rfl ?_) | (with_reducible refine wpKr ?_) | ((with_reducible refine wpKd ?_ ?_); kernel_rfl) | (with_reducible refine wpKn ?_) | (with_reducible refine seqKn ?_) | (with_reducible refine drawKn ?_) | (first | refine seqKs rfl rfl rfl rfl ?_ | refine seqKu rfl rfl rfl rfl ?_ | refine drawKs rfl rfl rfl rfl ?_ | refine drawKu rfl rfl rfl rfl ?_) | ((first | refine seqK rfl rfl (fun K' hK => ?_) | refine seqKr rfl rfl rfl rfl (fun K' hK => ?_)); refine stp ?_; with_reducible refine hK _ _ ?_; clear hK K') | ((first | refine drawK rfl rfl (fun K' hK => ?_) | refine drawKr rfl rfl rfl rfl (fun K' hK => ?_)); refine stp ?_; with_reducible refine hK _ _ _ ?_; clear hK K') | (refine seqKz rfl rfl (fun K' hK => ?_); refine stp ?_; with_reducible refine hK _ ?_; clear hK K') | (refine drawKz rfl rfl (fun K' hK => ?_); refine stp ?_; with_reducible refine hK _ _ ?_; clear hK K'))
                refine stp ?_; try with_reducible exact True.intro
                refine Or.inr ?_; refine stp ?_; try with_reducible exact True.intro
                refine Or.inr ?_; refine stp ?_; try with_reducible exact True.intro
                replace hd : d2 (hh, 0, bb) h (b + 1) = d2 (hh, 0, bb) h b ++ [prD (hh, 0, bb) h b] := by rw [hd, hk, ho]; rfl
                refine ⟨b + 1, ?_, by omega, by dsimp only; omega⟩
                dsimp only
                rw [hd, ← List.append_assoc]
                refine ⟨.frz [], [0, 6], ⟨rfl, ?_, rfl, rfl, trivial⟩, ⟨rfl, ?_, trivial⟩, by decide, rfl, rfl, rfl⟩
                · show V.own 6 0 _ = V.own 6 0 _
                  congr 1; simp; omega
                · refine congrArg (fun x => some (Obj.arr (.list sqT) x false)) ?_
                  simp
                  rw [List.take_of_length_le (by simp only [List.length_append]; omega), List.append_assoc]
                  rfl
              · repeat (first | (with_reducible refine wpKs ?_) | (with_reducible refine wpKb ?_) | (with_reducible refine wpKbn ?_) | (with_reducible refine wpKk ?_) | (refine wpKt rfl ?_) | (refine wpKf rfl ?_) | (with_reducible refine wpKr ?_) | ((with_reducible refine wpKd ?_ ?_); kernel_rfl) | (with_reducible refine wpKn ?_) | (with_reducible refine seqKn ?_) | (with_reducible refine drawKn ?_) | (first | refine seqKs rfl rfl rfl rfl ?_ | refine seqKu rfl rfl rfl rfl ?_ | refine drawKs rfl rfl rfl rfl ?_ | refine drawKu rfl rfl rfl rfl ?_) | ((first | refine seqK rfl rfl (fun K' hK => ?_) | refine seqKr rfl rfl rfl rfl (fun K' hK => ?_)); refine stp ?_; with_reducible refine hK _ _ ?_; clear hK K') | ((first | refine drawK rfl rfl (fun K' hK => ?_) | refine drawKr rfl rfl rfl rfl (fun K' hK => ?_)); refine stp ?_; with_reducible refine hK _ _ _ ?_; clear hK K') | (refine seqKz rfl rfl (fun K' hK => ?_); refine stp ?_; with_reducible refine hK _ ?_; clear hK K') | (refine drawKz rfl rfl (fun K' hK => ?_); refine stp ?_; with_reducible refine hK _ _ ?_; clear hK K'))
                refine stp ?_; try with_reducible exact True.intro
                replace hd : d2 (hh, 0, bb) h (b + 1) = d2 (hh, 0, bb) h b := by rw [hd, hk, ho]; simp
                refine ⟨b + 1, ?_, by omega, by dsimp only; omega⟩
                dsimp only
                rw [hd]
                exact ⟨.frz [], [0, 1], ⟨rfl, rfl, rfl, rfl, trivial⟩, ⟨rfl, rfl, trivial⟩, by decide, rfl, rfl, rfl⟩
            · repeat (first | (with_reducible refine wpKs ?_) | (with_reducible refine wpKb ?_) | (with_reducible refine wpKbn ?_) | (with_reducible refine wpKk ?_) | (refine wpKt rfl ?_) | (refine wpKf rfl ?_) | (with_reducible refine wpKr ?_) | ((with_reducible refine wpKd ?_ ?_); kernel_rfl) | (with_reducible refine wpKn ?_) | (with_reducible refine seqKn ?_) | (with_reducible refine drawKn ?_) | (first | refine seqKs rfl rfl rfl rfl ?_ | refine seqKu rfl rfl rfl rfl ?_ | refine drawKs rfl rfl rfl rfl ?_ | refine drawKu rfl rfl rfl rfl ?_) | ((first | refine seqK rfl rfl (fun K' hK => ?_) | refine seqKr rfl rfl rfl rfl (fun K' hK => ?_)); refine stp ?_; with_reducible refine hK _ _ ?_; clear hK K') | ((first | refine drawK rfl rfl (fun K' hK => ?_) | refine drawKr rfl rfl rfl rfl (fun K' hK => ?_)); refine stp ?_; with_reducible refine hK _ _ _ ?_; clear hK K') | (refine seqKz rfl rfl (fun K' hK => ?_); refine stp ?_; with_reducible refine hK _ ?_; clear hK K') | (refine drawKz rfl rfl (fun K' hK => ?_); refine stp ?_; with_reducible refine hK _ _ ?_; clear hK K'))
              refine stp ?_; try with_reducible exact True.intro
              replace hd : d2 (hh, 0, bb) h (b + 1) = d2 (hh, 0, bb) h b := by rw [hd, hk, ho]; simp
              refine ⟨b + 1, ?_, by omega, by dsimp only; omega⟩
              dsimp only
              rw [hd]
              exact ⟨.frz [], [0, 1], ⟨rfl, rfl, rfl, rfl, trivial⟩, ⟨rfl, rfl, trivial⟩, by decide, rfl, rfl, rfl⟩
    · refine stp ?_; try with_reducible exact True.intro
      have e7 : b = bb.toNat + 1 := by omega
      subst e7
      refine ⟨h + 1, ?_, by omega, by dsimp only; omega⟩
      dsimp only
      rw [d1_succ]
      exact ⟨.frz [], [0, 1], ⟨rfl, rfl, rfl, trivial⟩, ⟨rfl, rfl, trivial⟩, by decide, rfl, rfl, rfl⟩
  · refine stp ?_; try with_reducible exact True.intro
    have e7 : h = hh.toNat + 1 := by omega
    subst e7
    exact ⟨.frz [], [1], ⟨rfl, trivial⟩, ⟨rfl, trivial⟩, by decide, rfl, rfl, rfl⟩
theorem DividingCutsSN (x : Sf) (hp : isP x = false) : ConT Try.prog 31 [sfV x] (.own 0 0 0) [.arr (.list sqT) [] false] := by
  have w := l21Fits x
  obtain ⟨hh, c, bb⟩ := x
  rw [hp] at w
  refine conT_of hmix hTab Try.func31 rfl rfl (by kernel_rfl) (by show 1 ≤ Try.f31.ntmps; decide) ?_
  dsimp only [sfV] at w ⊢
  refine stp ?_; try with_reducible exact True.intro
  refine Or.inr ?_; refine stp ?_; try with_reducible exact True.intro
  refine ⟨Nat, fun h => h = 0, fun h => 1 - h, fun h => [(1, .pcell 0 0), (3, .own 1 0 0), (4, .i 0)], fun h => [.vars [.i hh, .i c, .i bb], .arr (.list sqT) [] false], ⟨0, ⟨.frz [], [0, 1], ⟨rfl, rfl, rfl, trivial⟩, ⟨rfl, rfl, trivial⟩, by decide, rfl, rfl, rfl⟩, rfl⟩, fun h h1 => ?_⟩
  refine stp ?_; try with_reducible exact True.intro
  refine useT w.toT ?_ ⟨⟨rfl, rfl, rfl, trivial⟩, trivial⟩
  refine stp ?_; try with_reducible exact True.intro
  exact ⟨.frz [], [1], ⟨rfl, trivial⟩, ⟨rfl, trivial⟩, by decide, rfl, rfl, rfl⟩
end Go.Proofs.YtaoepnmhflmhhaaTv
end
section
open Go Go.Proofs.YtaoepnmhflmhhaaVe Go.Proofs.YtaoepnmhflmhhaaTv Go.Proofs
namespace Go.Proofs.YtaoepnmhflmhhaaTv
set_option maxRecDepth 8000
set_option maxHeartbeats 2000000
theorem eul_rng (x : Sf) : -100 ≤ eul x ∧ eul x ≤ 2 := by
  unfold eul
  split
  · rename_i h
    obtain ⟨⟨a1, a2⟩, ⟨b1, b2⟩, ⟨c1, c2⟩, d⟩ := isS_iff.1 h
    omega
  · omega
theorem tol_rng {y : Sf} (h : isS y = true) : tol y = (y, true) := by
  unfold tol; rw [h]; rfl
theorem isP_of {a b : Int} (ha : 0 ≤ a ∧ a ≤ 20) (hb : 0 ≤ b ∧ b ≤ 20) : isP (a, 0, b) = true := by
  unfold isP
  rw [isS_iff.2 ⟨ha, ⟨Int.le_refl 0, (by decide : (0 : Int) ≤ 20)⟩, hb, .inr rfl⟩]; rfl
theorem isP_isS {x : Sf} (h : isP x = true) : isS x = true := by
  unfold isP at h; exact (Bool.and_eq_true _ _ ▸ h : isS x = true ∧ _).1
theorem eul_P {a b : Int} (ha : 0 ≤ a ∧ a ≤ 20) (hb : 0 ≤ b ∧ b ≤ 20) : eul (a, 0, b) = 2 - 2 * a - b := by
  unfold eul
  rw [if_pos (isP_isS (isP_of ha hb))]
  show 2 - 2 * a - 0 - b = _
  omega
/-- What is cut around is glued again. -/
theorem cut_glue {x : Sf} (h : (cutM x).2 = true) : eul (cutM x).1 = eul x ∧ gluM (cutM x).1 = (x, true) := by
  unfold cutM at h ⊢
  split at h
  · rename_i hc
    simp only [Bool.and_eq_true, Bool.not_eq_true', decide_eq_false_iff_not] at hc
    obtain ⟨hp, h0⟩ := hc
    obtain ⟨⟨a1, a2⟩, c0, b1, b2⟩ := isP_rng hp
    obtain ⟨a, c, b⟩ := x
    dsimp only at *
    subst c0
    rw [if_pos (by simp [hp, h0])]
    have hs : isS (a - 1, 0, b + 2) = true := h
    have hs2 := isS_iff.1 hs
    dsimp only at hs2
    rw [tol_rng hs]
    refine ⟨by rw [eul_P (by omega) (by omega), eul_P (by omega) (by omega)]; omega, ?_⟩
    unfold gluM
    rw [if_pos (by rw [isP_of (by omega) (by omega)]; simp; omega)]
    dsimp only
    rw [show a - 1 + 1 = a by omega, show b + 2 - 2 = b by omega, tol_rng (isP_isS hp)]
  · cases h
theorem join_adds {x y : Sf} (h : (joiM x y).2 = true) : eul (joiM x y).1 = eul x + eul y := by
  unfold joiM at h ⊢
  split at h
  · rename_i hc
    simp only [Bool.and_eq_true, Bool.not_eq_true', decide_eq_false_iff_not] at hc
    obtain ⟨⟨⟨hp, hq⟩, h1⟩, h2⟩ := hc
    obtain ⟨⟨a1, a2⟩, c0, b1, b2⟩ := isP_rng hp
    obtain ⟨⟨a3, a4⟩, c3, b3, b4⟩ := isP_rng hq
    obtain ⟨a, c, b⟩ := x
    obtain ⟨a', c', b'⟩ := y
    dsimp only at *
    subst c0 c3
    rw [if_pos (by simp [hp, hq, h1, h2])]
    have hs : isS (a + a', 0, b + b' - 2) = true := h
    have hs2 := isS_iff.1 hs
    dsimp only at hs2
    rw [tol_rng hs]
    dsimp only
    rw [eul_P (by omega) (by omega), eul_P (by omega) (by omega), eul_P (by omega) (by omega)]
    omega
  · cases h
/-- The parts of a dividing curve. -/
theorem part_join {x : Sf} (hp : isP x = true) {h b : Nat} (hb : b < x.2.2.toNat + 1) (hh : h < x.1.toNat + 1) (hk : okD x h b = true) : joiM (onD h b) (twD x h b) = (x, true) ∧ eul (onD h b) + eul (twD x h b) = eul x := by
  obtain ⟨⟨a1, a2⟩, c0, b1, b2⟩ := isP_rng hp
  obtain ⟨a, c, d⟩ := x
  dsimp only at *
  subst c0
  unfold okD at hk
  simp only [Bool.and_eq_true] at hk
  obtain ⟨_, h1, h2, _⟩ := hk
  have k1 := isS_iff.1 h1
  have k2 := isS_iff.1 h2
  simp only [onD, twD] at *
  refine ⟨?_, by rw [eul_P (by omega) (by omega), eul_P (by omega) (by omega), eul_P (by omega) (by omega)]; omega⟩
  unfold joiM
  rw [if_pos (by rw [isP_of (by omega) (by omega), isP_of (by omega) (by omega)]; simp; omega)]
  dsimp only
  rw [show (h : Int) + (a - h) = a by omega, show (b : Int) + 1 + (d - b + 1) - 2 = d by omega, tol_rng (isP_isS hp)]
def unq (x : Sq) : Sf := (x.1, x.2.1, x.2.2.1)
theorem d1_rows {x : Sf} (hp : isP x = true) (k : Nat) (hk : k < (d1 x (x.1.toNat + 1)).length) : (rdT (.list sqT) (d1 x (x.1.toNat + 1)) k).length = 2 ∧ joiM (unq (rdT sqT (rdT (.list sqT) (d1 x (x.1.toNat + 1)) k) 0)) (unq (rdT sqT (rdT (.list sqT) (d1 x (x.1.toNat + 1)) k) 1)) = (x, true) ∧ eul (unq (rdT sqT (rdT (.list sqT) (d1 x (x.1.toNat + 1)) k) 0)) + eul (unq (rdT sqT (rdT (.list sqT) (d1 x (x.1.toNat + 1)) k) 1)) = eul x := by
  have hg := rdT_get (.list sqT) (d1 x (x.1.toNat + 1)) (k : Int) (by omega)
  rw [Int.toNat_natCast] at hg
  obtain ⟨h, b, h1, h2, h3, h4⟩ := d1_mem (List.mem_of_getElem? hg)
  have h5 := part_join hp h2 h1 h3
  generalize rdT (.list sqT) (d1 x (x.1.toNat + 1)) k = r at *
  subst h4
  exact ⟨rfl, h5.1, h5.2⟩
theorem f1_mem {n : Int} {k : Nat} {x : Sq} (h : x ∈ f1 n k) : sqE x = n := by
  unfold f1 at h
  obtain ⟨_, _, h⟩ := List.mem_flatMap.1 h
  unfold f2 at h
  obtain ⟨_, _, h⟩ := List.mem_flatMap.1 h
  unfold f3 at h
  simpa using (List.mem_filter.1 h).2
theorem f1_rows {n : Int} (k : Nat) (hk : k < (f1 n 21).length) : eul (unq (rdT sqT (f1 n 21) k)) = n := by
  have hg := rdT_get sqT (f1 n 21) (k : Int) (by omega)
  rw [Int.toNat_natCast] at hg
  exact f1_mem (List.mem_of_getElem? hg)
/-- Pieces and curves of a surface with parts. -/
theorem pieces {x : Sf} (hs : isS x = true) (hc : x.2.1 = 0) (he : eul x < 0) : pieM x = - eul x ∧ 2 * mosM x + x.2.2 = 3 * pieM x := by
  obtain ⟨a, c, b⟩ := x
  dsimp only at hc
  subst hc
  have k := isS_iff.1 hs
  dsimp only at k
  have hp := isP_of k.1 k.2.2.1
  rw [eul_P k.1 k.2.2.1] at he ⊢
  unfold pieM mosM
  rw [if_pos hp, if_pos hp]
  dsimp only
  have e1 : max 0 (2 * a - 2 + b) = 2 * a - 2 + b := Int.max_eq_right (by omega)
  rw [e1]
  split
  · rename_i hq
    simp only [Bool.and_eq_true, decide_eq_true_eq] at hq
    omega
  · rename_i hq
    simp only [Bool.and_eq_true, decide_eq_true_eq] at hq
    have e2 : max 0 (3 * a - 3 + b) = 3 * a - 3 + b := Int.max_eq_right (by omega)
    rw [e2]
    exact ⟨by omega, by omega⟩
theorem pie_rng (x : Sf) : -1 ≤ pieM x ∧ pieM x ≤ 100 := by
  unfold pieM
  split
  · rename_i h
    have := isP_rng h
    rw [Int.max_def]; split <;> omega
  · omega
theorem mos_rng (x : Sf) : -1 ≤ mosM x ∧ mosM x ≤ 100 := by
  unfold mosM
  split
  · rename_i h
    have := isP_rng h
    split
    · omega
    · rw [Int.max_def]; split <;> omega
  · omega
end Go.Proofs.YtaoepnmhflmhhaaTv
end
