/- What functions of the program give: each contract holds for all arguments that its own sentence names. -/
import Derived.Test.YtffiddkignmobaaDoorFnFnExactDescribeWord1
set_option linter.unusedVariables false
set_option linter.unusedSimpArgs false
section
open Go Go.Proofs.YtffiddkignmobaaDoorVe Go.Proofs.YtffiddkignmobaaDoorTv Go.Proofs
namespace Go.Proofs.YtffiddkignmobaaDoorTv
set_option maxRecDepth 8000
set_option maxHeartbeats 2000000
def redL (w : List Int) : List Int := (redP w w.length).1.take (redP w w.length).2
theorem redP_red (w : List Int) : ∀ i, i ≤ w.length → (redP w i).1.take (redP w i).2 = Fg.red (w.take i)
  | 0, _ => rfl
  | i + 1, hi => by
    have h1 := redP_red w i (by omega)
    obtain ⟨l1, l2⟩ := redP_le w i
    rw [take_succA (by omega)]
    have e : Fg.red (w.take i ++ [rd w i]) = (Fg.psh (Fg.red (w.take i)).reverse (rd w i)).reverse := by
      unfold Fg.red
      rw [Fg.stk_app, List.reverse_reverse]; rfl
    rw [e, ← h1]
    simp only [redP, red1]
    generalize redP w i = p at *
    obtain ⟨l, n⟩ := p
    dsimp only at *
    cases n with
    | zero => simp [Fg.psh]
    | succ n =>
      have h2 : l.take (n + 1) = l.take n ++ [rd l n] := take_succA (by omega)
      have e2 : rd l (((n + 1 : Nat) : Int) - 1) = rd l n := by rw [show (((n + 1 : Nat) : Int) - 1) = (n : Int) by omega]
      rw [h2, List.reverse_append]
      simp only [List.reverse_cons, List.reverse_nil, List.nil_append, List.singleton_append, Fg.psh]
      by_cases h3 : rd l n = -(rd w i)
      · rw [if_pos h3, if_pos ⟨by omega, e2.trans h3⟩]
        simp
      · rw [if_neg h3, if_neg (fun h => h3 (e2 ▸ h.2))]
        simp [h2]
        exact List.take_of_length_le (by simp; omega)
theorem redL_red (w : List Int) : redL w = Fg.red w := by
  have := redP_red w w.length (Nat.le_refl _)
  rwa [List.take_length] at this
theorem copyOfW (l : List Int) (hl : (l.length : Int) ≤ 274877906944) : ConT Tryd.prog 141 [.il l] (.own 0 0 l.length) [.arr (.int .i64) l true] := by
  refine conT_of hmix hTab Tryd.func141 rfl rfl (by kernel_rfl) (by show 1 ≤ Tryd.f141.ntmps; decide) ?_
  refine stp ?_; try with_reducible exact True.intro
  exact (fitK [] [1])
theorem sameI (l m : List Int) (hl : (l.length : Int) ≤ 274877906944) : ConS Tryd.prog 139 [.il l, .il m] (.b (decide (l = m))) := by
  refine conS_of hmix hTab Tryd.func139 rfl rfl (by kernel_rfl) (by show 2 ≤ Tryd.f139.ntmps; decide) rfl ?_
  refine stp ?_; try with_reducible exact True.intro
  refine Br.mk (fun h => ?_) (fun h => ?_) <;> simp [-Int.ofNat_toNat] at h
  · refine stp ?_; try with_reducible exact True.intro
    have : l ≠ m := fun e => h (by rw [e])
    simp [this]
  · refine stp ?_; try with_reducible exact True.intro
    refine ⟨Nat, fun i => i ≤ l.length ∧ ∀ k, k < i → rd l k = rd m k, fun i => l.length - i, fun i => [(0, .il l), (1, .il m), (12, .i l.length), (13, .i i)], fun i => [], ⟨0, (fitK [] []), by simp⟩, fun i ⟨hi, hk⟩ => ?_⟩
    dsimp only at hi hk ⊢
    refine stp ?_; try with_reducible exact True.intro
    refine Br.mk (fun h1 => ?_) (fun h1 => ?_) <;> simp [-Int.ofNat_toNat] at h1
    · refine stp ?_; try with_reducible exact True.intro
      refine Br.mk (fun h2 => ?_) (fun h2 => ?_) <;> simp [-Int.ofNat_toNat] at h2
      · refine stp ?_; try with_reducible exact True.intro
        have : l ≠ m := fun e => h2 (by rw [e])
        simp [this]
      · refine stp ?_; try with_reducible exact True.intro
        refine ⟨i + 1, (fitK [] []), ⟨h1, fun k hk1 => ?_⟩, by first | ((try dsimp only); omega) | (simp; omega)⟩
        by_cases e : k = i
        · rw [e]; exact h2
        · exact hk k (by omega)
    · refine stp ?_; try with_reducible exact True.intro
      have : l = m := by
        refine List.ext_getElem (by omega) fun k h2 h3 => ?_
        have := hk k (by omega)
        simpa [rd, h2, h3] using this
      simp [this]
theorem sameS (l m : List Int) (hl : (l.length : Int) ≤ 274877906944) : ConS Tryd.prog 131 [.il l, .il m] (.b (decide (l = m))) := by
  refine conS_of hmix hTab Tryd.func131 rfl rfl (by kernel_rfl) (by show 2 ≤ Tryd.f131.ntmps; decide) rfl ?_
  refine stp ?_; try with_reducible exact True.intro
  refine Br.mk (fun h => ?_) (fun h => ?_) <;> simp [-Int.ofNat_toNat] at h
  · refine stp ?_; try with_reducible exact True.intro
    have : l ≠ m := fun e => h (by rw [e])
    simp [this]
  · refine stp ?_; try with_reducible exact True.intro
    refine ⟨Nat, fun i => i ≤ l.length ∧ ∀ k, k < i → rd l k = rd m k, fun i => l.length - i, fun i => [(0, .il l), (1, .il m), (5, .i i)], fun i => [], ⟨0, (fitK [] []), by simp⟩, fun i ⟨hi, hk⟩ => ?_⟩
    dsimp only at hi hk ⊢
    refine stp ?_; try with_reducible exact True.intro
    refine Br.mk (fun h1 => ?_) (fun h1 => ?_) <;> simp [-Int.ofNat_toNat] at h1
    · refine stp ?_; try with_reducible exact True.intro
      refine Br.mk (fun h2 => ?_) (fun h2 => ?_) <;> simp [-Int.ofNat_toNat] at h2
      · refine stp ?_; try with_reducible exact True.intro
        have : l ≠ m := fun e => h2 (by rw [e])
        simp [this]
      · refine stp ?_; try with_reducible exact True.intro
        refine ⟨i + 1, (fitK [] []), ⟨h1, fun k hk1 => ?_⟩, by first | ((try dsimp only); omega) | (simp; omega)⟩
        by_cases e : k = i
        · rw [e]; exact h2
        · exact hk k (by omega)
    · refine stp ?_; try with_reducible exact True.intro
      have : l = m := by
        refine List.ext_getElem (by omega) fun k h2 h3 => ?_
        have := hk k (by omega)
        simpa [rd, h2, h3] using this
      simp [this]
theorem word_q {w : List Int} (h : wordOk w = true) : w.length ≤ 24 ∧ ∀ x ∈ w, -8 ≤ x ∧ x ≤ 8 := by
  simp only [wordOk, Bool.and_eq_true, decide_eq_true_eq, List.all_eq_true] at h
  refine ⟨h.2, fun x hx => ?_⟩
  have := h.1 x hx
  simp only [isLet, Bool.and_eq_true, decide_eq_true_eq] at this
  exact this.2
theorem rd_all {l : List Int} {Q : Int → Prop} (h : ∀ x ∈ l, Q x) (h0 : Q 0) (i : Int) : Q (rd l i) := by
  unfold rd
  cases hx : l[i.toNat]? with
  | none => simpa [List.getD, hx] using h0
  | some y => simp [List.getD, hx]; exact h y (List.mem_of_getElem? hx)
/-- A window of a list. -/
def win (l : List Int) (p : Nat × Nat) : List Int := (l.drop p.1).take p.2
theorem win_len {l : List Int} {p : Nat × Nat} (h : p.1 + p.2 ≤ l.length) : (win l p).length = p.2 := by unfold win; simp; omega
theorem win_head {l : List Int} {p : Nat × Nat} (h : p.1 + p.2 ≤ l.length) (h0 : 0 < p.2) : (win l p).headD 0 = rd l p.1 := by
  unfold win
  rw [List.headD_eq_head?_getD, List.head?_take, if_neg (by omega), List.head?_drop]
  simp [rd, List.getD]
theorem win_last {l : List Int} {p : Nat × Nat} (h : p.1 + p.2 ≤ l.length) (h0 : 0 < p.2) : (win l p).getLastD 0 = rd l ((p.1 + p.2 - 1 : Nat) : Int) := by
  rw [List.getLastD_eq_getLast?, List.getLast?_eq_getElem?, win_len h]
  unfold win
  rw [List.getElem?_take, if_pos (by omega), List.getElem?_drop]
  simp [rd, List.getD, show p.1 + (p.2 - 1) = p.1 + p.2 - 1 by omega]
theorem win_cut {l : List Int} {p : Nat × Nat} (h : p.1 + p.2 ≤ l.length) (h0 : 2 ≤ p.2) : ((win l p).drop 1).dropLast = win l (p.1 + 1, p.2 - 2) := by
  unfold win
  rw [List.drop_take, List.drop_drop, List.dropLast_eq_take, List.length_take, List.take_take]
  dsimp only
  rw [List.length_drop]
  congr 1
  omega
theorem strip_step {l : List Int} {p : Nat × Nat} (h : p.1 + p.2 ≤ l.length) : Fg.strip p.2 (win l p) = if 2 ≤ p.2 ∧ rd l p.1 = -(rd l ((p.1 + p.2 - 1 : Nat) : Int)) then Fg.strip (p.2 - 2) (win l (p.1 + 1, p.2 - 2)) else win l p := by
  by_cases h2 : 2 ≤ p.2
  · obtain ⟨m, hm⟩ : ∃ m, p.2 = m + 1 := ⟨p.2 - 1, by omega⟩
    rw [hm, Fg.strip, ← hm, win_len h, win_head h (by omega), win_last h (by omega), win_cut h h2]
    by_cases h3 : 2 ≤ p.2 ∧ rd l p.1 = -(rd l ((p.1 + p.2 - 1 : Nat) : Int))
    · rw [if_pos h3, if_pos h3]
      exact Fg.strip_len (n := p.2 - 2) (m := m) (by rw [win_len (by dsimp only; omega)]; dsimp only; omega) (by omega)
    · rw [if_neg h3, if_neg h3]
  · rw [if_neg (fun k => h2 k.1)]
    have : (win l p).length ≤ 1 := by rw [win_len h]; omega
    generalize win l p = u at *
    cases u with
    | nil => exact Fg.strip_nil _
    | cons x t => rw [List.length_eq_zero_iff.1 (by rw [List.length_cons] at this; omega : t.length = 0)]; exact Fg.strip_one _ _
theorem red_mem {w : List Int} {Q : Int → Prop} (h : ∀ x ∈ w, Q x) : ∀ x ∈ (redP w w.length).1, Q x := redP_mem h _ (Nat.le_refl _)
theorem CoreWordI {w : List Int} (hw : wordOk w = true) : ConT Tryd.prog 65 [.il w] (.own 0 0 (Fg.core w).length) [.arr (.int .i64) (Fg.core w) true] := by
  obtain ⟨hl, hq⟩ := word_q hw
  obtain ⟨l1, l2⟩ := redP_le w w.length
  have hm := red_mem (Q := fun x => -8 ≤ x ∧ x ≤ 8) hq
  have hcore : Fg.core w = Fg.strip (redP w w.length).2 (win (redP w w.length).1 (0, (redP w w.length).2)) := by
    have e : win (redP w w.length).1 (0, (redP w w.length).2) = Fg.red w := by rw [← redL_red]; unfold win redL; simp
    rw [e, Fg.core_eq (n := (redP w w.length).2)]
    rw [← redL_red]; unfold redL; simp; omega
  have hi := IsWordI w (by omega)
  have hr := reduceI w (by omega) (fun x hx => by have := hq x hx; omega)
  rw [hw] at hi
  generalize redP w w.length = p at *
  obtain ⟨l, n⟩ := p
  dsimp only at l1 l2 hm hcore hr
  have hb := rd_all (Q := fun x => -8 ≤ x ∧ x ≤ 8) hm (by omega)
  refine conT_of hmix hTab Tryd.func65 rfl rfl (by kernel_rfl) (by show 1 ≤ Tryd.f65.ntmps; decide) ?_
  refine stp ?_; try with_reducible exact True.intro
  refine useT (hi.toT) ?_; try with_reducible exact True.intro
  refine useT (hr) ?_; try with_reducible exact True.intro
  refine ⟨Nat × Nat, fun p => p.1 + p.2 ≤ l.length ∧ Fg.strip p.2 (win l p) = Fg.core w, fun p => p.2, fun p => [(3, .own 0 p.1 p.2)], fun p => [.arr (.int .i64) l true], ⟨(0, n), (fitK [] [0]), by dsimp only; omega, hcore.symm⟩, fun ⟨o, n⟩ ⟨hi, hs⟩ => ?_⟩
  dsimp only at hi hs ⊢
  have hst := strip_step (l := l) (p := (o, n)) hi
  rw [hs] at hst
  dsimp only at hst
  have b1 := hb o
  have b2 := hb ((o + n - 1 : Nat) : Int)
  cases o with
  | zero =>
    have e1 : @Eq Int (rdT (.int .i64) l (0 : Nat)) (rd l (0 : Nat)) := rfl
    have b3 : -8 ≤ rdT (.int .i64) l (((n : Int) - 1).toNat : Nat) ∧ rdT (.int .i64) l (((n : Int) - 1).toNat : Nat) ≤ 8 := hb _
    refine stp ?_; try with_reducible exact True.intro
    refine Br.mk (fun h1 => ?_) (fun h1 => ?_) <;> simp [-Int.ofNat_toNat] at h1
    · have e2 : @Eq Int (rdT (.int .i64) l (((n : Int) - 1).toNat : Nat)) (rd l ((0 + n - 1 : Nat) : Int)) := by
        rw [show ((n : Int) - 1).toNat = 0 + n - 1 by omega]
      refine stp ?_; try with_reducible exact True.intro
      have e3 : @Eq Prop (@Eq Int (rdT (.int .i64) l (0 : Nat)) (-(rdT (.int .i64) l (((n : Int) - 1).toNat : Nat)))) (rd l (0 : Nat) = -(rd l ((0 + n - 1 : Nat) : Int))) := by rw [e1, e2]
      by_cases h2 : rd l (0 : Nat) = -(rd l ((0 + n - 1 : Nat) : Int))
      · rw [if_pos ⟨by omega, h2⟩] at hst
        refine brT (decide_eq_true (e3.symm ▸ h2)) ?_
        refine stp ?_; try with_reducible exact True.intro
        refine ⟨(0 + 1, n - 2), ⟨.frz [], [0], ⟨?_, trivial⟩, ⟨rfl, trivial⟩, by decide, rfl, rfl, rfl⟩, ⟨by dsimp only; omega, hst.symm⟩, by dsimp only; omega⟩
        show V.own 0 _ _ = V.own 0 _ _
        congr 1
        omega
      · rw [if_neg (fun h => h2 h.2)] at hst
        refine brF (decide_eq_false (fun h => h2 (e3 ▸ h))) ?_
        refine stp ?_; try with_reducible exact True.intro
        have hcl : (Fg.core w).length ≤ 24 := by rw [hst, win_len (by dsimp only; omega)]; dsimp only; omega
        refine useT (copyOfW (Fg.core w) (by omega)) ?_ ⟨⟨_, _, rfl, by first | omega | (dsimp only; omega), hst.symm⟩, trivial⟩
        exact (fitK [] [1])
    · rw [if_neg (fun h => absurd h.1 (by omega))] at hst
      refine stp ?_; try with_reducible exact True.intro
      have hcl : (Fg.core w).length ≤ 24 := by rw [hst, win_len (by dsimp only; omega)]; dsimp only; omega
      refine useT (copyOfW (Fg.core w) (by omega)) ?_ ⟨⟨_, _, rfl, by first | omega | (dsimp only; omega), hst.symm⟩, trivial⟩
      exact (fitK [] [1])
  | succ o =>
    have e1 : @Eq Int (rdT (.int .i64) l ((o + 1) : Nat)) (rd l ((o + 1) : Nat)) := rfl
    have b3 : -8 ≤ rdT (.int .i64) l ((o + 1 + ((n : Int) - 1).toNat) : Nat) ∧ rdT (.int .i64) l ((o + 1 + ((n : Int) - 1).toNat) : Nat) ≤ 8 := hb _
    refine stp ?_; try with_reducible exact True.intro
    refine Br.mk (fun h1 => ?_) (fun h1 => ?_) <;> simp [-Int.ofNat_toNat] at h1
    · have e2 : @Eq Int (rdT (.int .i64) l ((o + 1 + ((n : Int) - 1).toNat) : Nat)) (rd l (((o + 1) + n - 1 : Nat) : Int)) := by
        rw [show (o + 1 + ((n : Int) - 1).toNat) = (o + 1) + n - 1 by omega]
      refine stp ?_; try with_reducible exact True.intro
      have e3 : @Eq Prop (@Eq Int (rdT (.int .i64) l ((o + 1) : Nat)) (-(rdT (.int .i64) l ((o + 1 + ((n : Int) - 1).toNat) : Nat)))) (rd l ((o + 1) : Nat) = -(rd l (((o + 1) + n - 1 : Nat) : Int))) := by rw [e1, e2]
      by_cases h2 : rd l ((o + 1) : Nat) = -(rd l (((o + 1) + n - 1 : Nat) : Int))
      · rw [if_pos ⟨by omega, h2⟩] at hst
        refine brT (decide_eq_true (e3.symm ▸ h2)) ?_
        refine stp ?_; try with_reducible exact True.intro
        refine ⟨((o + 1) + 1, n - 2), ⟨.frz [], [0], ⟨?_, trivial⟩, ⟨rfl, trivial⟩, by decide, rfl, rfl, rfl⟩, ⟨by dsimp only; omega, hst.symm⟩, by dsimp only; omega⟩
        show V.own 0 _ _ = V.own 0 _ _
        congr 1
        omega
      · rw [if_neg (fun h => h2 h.2)] at hst
        refine brF (decide_eq_false (fun h => h2 (e3 ▸ h))) ?_
        refine stp ?_; try with_reducible exact True.intro
        have hcl : (Fg.core w).length ≤ 24 := by rw [hst, win_len (by dsimp only; omega)]; dsimp only; omega
        refine useT (copyOfW (Fg.core w) (by omega)) ?_ ⟨⟨_, _, rfl, by first | omega | (dsimp only; omega), hst.symm⟩, trivial⟩
        exact (fitK [] [1])
    · rw [if_neg (fun h => absurd h.1 (by omega))] at hst
      refine stp ?_; try with_reducible exact True.intro
      have hcl : (Fg.core w).length ≤ 24 := by rw [hst, win_len (by dsimp only; omega)]; dsimp only; omega
      refine useT (copyOfW (Fg.core w) (by omega)) ?_ ⟨⟨_, _, rfl, by first | omega | (dsimp only; omega), hst.symm⟩, trivial⟩
      exact (fitK [] [1])
theorem l2Core {w : List Int} (hw : wordOk w = true) : ConT Tryd.prog 130 [.il w] (.own 0 0 (Fg.core w).length) [.arr (.int .i64) (Fg.core w) true] := by
  obtain ⟨hl, hq⟩ := word_q hw
  obtain ⟨l1, l2⟩ := redP_le w w.length
  have hm := red_mem (Q := fun x => -8 ≤ x ∧ x ≤ 8) hq
  have hcore : Fg.core w = Fg.strip (redP w w.length).2 (win (redP w w.length).1 (0, (redP w w.length).2)) := by
    have e : win (redP w w.length).1 (0, (redP w w.length).2) = Fg.red w := by rw [← redL_red]; unfold win redL; simp
    rw [e, Fg.core_eq (n := (redP w w.length).2)]
    rw [← redL_red]; unfold redL; simp; omega
  have hr := reduceS w (by omega) (fun x hx => by have := hq x hx; omega)
  generalize redP w w.length = p at *
  obtain ⟨l, n⟩ := p
  dsimp only at l1 l2 hm hcore hr
  have hb := rd_all (Q := fun x => -8 ≤ x ∧ x ≤ 8) hm (by omega)
  refine conT_of hmix hTab Tryd.func130 rfl rfl (by kernel_rfl) (by show 1 ≤ Tryd.f130.ntmps; decide) ?_
  refine stp ?_; try with_reducible exact True.intro
  refine useT (hr) ?_; try with_reducible exact True.intro
  refine ⟨Nat × Nat, fun p => p.1 + p.2 ≤ l.length ∧ Fg.strip p.2 (win l p) = Fg.core w, fun p => p.2, fun p => [(3, .own 0 p.1 p.2)], fun p => [.arr (.int .i64) l true], ⟨(0, n), (fitK [] [0]), by dsimp only; omega, hcore.symm⟩, fun ⟨o, n⟩ ⟨hi, hs⟩ => ?_⟩
  dsimp only at hi hs ⊢
  have hst := strip_step (l := l) (p := (o, n)) hi
  rw [hs] at hst
  dsimp only at hst
  have b1 := hb o
  have b2 := hb ((o + n - 1 : Nat) : Int)
  cases o with
  | zero =>
    have e1 : @Eq Int (rdT (.int .i64) l (0 : Nat)) (rd l (0 : Nat)) := rfl
    have b3 : -8 ≤ rdT (.int .i64) l (((n : Int) - 1).toNat : Nat) ∧ rdT (.int .i64) l (((n : Int) - 1).toNat : Nat) ≤ 8 := hb _
    refine stp ?_; try with_reducible exact True.intro
    refine Br.mk (fun h1 => ?_) (fun h1 => ?_) <;> simp [-Int.ofNat_toNat] at h1
    · have e2 : @Eq Int (rdT (.int .i64) l (((n : Int) - 1).toNat : Nat)) (rd l ((0 + n - 1 : Nat) : Int)) := by
        rw [show ((n : Int) - 1).toNat = 0 + n - 1 by omega]
      refine stp ?_; try with_reducible exact True.intro
      have e3 : @Eq Prop (@Eq Int (rdT (.int .i64) l (0 : Nat)) (-(rdT (.int .i64) l (((n : Int) - 1).toNat : Nat)))) (rd l (0 : Nat) = -(rd l ((0 + n - 1 : Nat) : Int))) := by rw [e1, e2]
      by_cases h2 : rd l (0 : Nat) = -(rd l ((0 + n - 1 : Nat) : Int))
      · rw [if_pos ⟨by omega, h2⟩] at hst
        refine brT (decide_eq_true (e3.symm ▸ h2)) ?_
        refine stp ?_; try with_reducible exact True.intro
        refine ⟨(0 + 1, n - 2), ⟨.frz [], [0], ⟨?_, trivial⟩, ⟨rfl, trivial⟩, by decide, rfl, rfl, rfl⟩, ⟨by dsimp only; omega, hst.symm⟩, by dsimp only; omega⟩
        show V.own 0 _ _ = V.own 0 _ _
        congr 1
        omega
      · rw [if_neg (fun h => h2 h.2)] at hst
        refine brF (decide_eq_false (fun h => h2 (e3 ▸ h))) ?_
        refine stp ?_; try with_reducible exact True.intro
        have hcl : (Fg.core w).length ≤ 24 := by rw [hst, win_len (by dsimp only; omega)]; dsimp only; omega
        rw [hst]
        unfold win
        dsimp only
        exact (fitK [] [2])
    · rw [if_neg (fun h => absurd h.1 (by omega))] at hst
      refine stp ?_; try with_reducible exact True.intro
      have hcl : (Fg.core w).length ≤ 24 := by rw [hst, win_len (by dsimp only; omega)]; dsimp only; omega
      rw [hst]
      unfold win
      dsimp only
      exact (fitK [] [2])
  | succ o =>
    have e1 : @Eq Int (rdT (.int .i64) l ((o + 1) : Nat)) (rd l ((o + 1) : Nat)) := rfl
    have b3 : -8 ≤ rdT (.int .i64) l ((o + 1 + ((n : Int) - 1).toNat) : Nat) ∧ rdT (.int .i64) l ((o + 1 + ((n : Int) - 1).toNat) : Nat) ≤ 8 := hb _
    refine stp ?_; try with_reducible exact True.intro
    refine Br.mk (fun h1 => ?_) (fun h1 => ?_) <;> simp [-Int.ofNat_toNat] at h1
    · have e2 : @Eq Int (rdT (.int .i64) l ((o + 1 + ((n : Int) - 1).toNat) : Nat)) (rd l (((o + 1) + n - 1 : Nat) : Int)) := by
        rw [show (o + 1 + ((n : Int) - 1).toNat) = (o + 1) + n - 1 by omega]
      refine stp ?_; try with_reducible exact True.intro
      have e3 : @Eq Prop (@Eq Int (rdT (.int .i64) l ((o + 1) : Nat)) (-(rdT (.int .i64) l ((o + 1 + ((n : Int) - 1).toNat) : Nat)))) (rd l ((o + 1) : Nat) = -(rd l (((o + 1) + n - 1 : Nat) : Int))) := by rw [e1, e2]
      by_cases h2 : rd l ((o + 1) : Nat) = -(rd l (((o + 1) + n - 1 : Nat) : Int))
      · rw [if_pos ⟨by omega, h2⟩] at hst
        refine brT (decide_eq_true (e3.symm ▸ h2)) ?_
        refine stp ?_; try with_reducible exact True.intro
        refine ⟨((o + 1) + 1, n - 2), ⟨.frz [], [0], ⟨?_, trivial⟩, ⟨rfl, trivial⟩, by decide, rfl, rfl, rfl⟩, ⟨by dsimp only; omega, hst.symm⟩, by dsimp only; omega⟩
        show V.own 0 _ _ = V.own 0 _ _
        congr 1
        omega
      · rw [if_neg (fun h => h2 h.2)] at hst
        refine brF (decide_eq_false (fun h => h2 (e3 ▸ h))) ?_
        refine stp ?_; try with_reducible exact True.intro
        have hcl : (Fg.core w).length ≤ 24 := by rw [hst, win_len (by dsimp only; omega)]; dsimp only; omega
        rw [hst]
        unfold win
        dsimp only
        exact (fitK [] [2])
    · rw [if_neg (fun h => absurd h.1 (by omega))] at hst
      refine stp ?_; try with_reducible exact True.intro
      have hcl : (Fg.core w).length ≤ 24 := by rw [hst, win_len (by dsimp only; omega)]; dsimp only; omega
      rw [hst]
      unfold win
      dsimp only
      exact (fitK [] [2])
theorem CoreWordS {w : List Int} (hw : wordOk w = true) : ConT Tryd.prog 57 [.il w] (.own 0 0 (Fg.core w).length) [.arr (.int .i64) (Fg.core w) true] := by
  have hl := (word_q hw).1
  have hi := IsWordS w (by omega)
  have hc := l2Core hw
  rw [hw] at hi
  refine conT_of hmix hTab Tryd.func57 rfl rfl (by kernel_rfl) (by show 1 ≤ Tryd.f57.ntmps; decide) ?_
  refine stp ?_; try with_reducible exact True.intro
  refine useT (hi.toT) ?_; try with_reducible exact True.intro
  refine useT (hc) ?_; try with_reducible exact True.intro
  exact (fitK [] [0])
theorem core_len {w : List Int} (hw : wordOk w = true) : (Fg.core w).length ≤ 24 ∧ ∀ x ∈ Fg.core w, -8 ≤ x ∧ x ≤ 8 := by
  obtain ⟨hl, hq⟩ := word_q hw
  have key : ∀ (n : Nat) (u : List Int), (Fg.strip n u).length ≤ u.length ∧ ∀ x ∈ Fg.strip n u, x ∈ u := by
    intro n
    induction n with
    | zero => intro u; exact ⟨Nat.le_refl _, fun x h => h⟩
    | succ n ih =>
      intro u
      rw [Fg.strip]
      split
      · obtain ⟨h1, h2⟩ := ih (u.drop 1).dropLast
        have e : ((u.drop 1).dropLast).length = u.length - 2 := by rw [List.length_dropLast, List.length_drop]; omega
        exact ⟨by omega, fun x hx => List.mem_of_mem_drop ((List.dropLast_sublist _).mem (h2 x hx))⟩
      · exact ⟨Nat.le_refl _, fun x h => h⟩
  obtain ⟨h1, h2⟩ := key (Fg.red w).length (Fg.red w)
  have e := redL_red w
  obtain ⟨l1, l2⟩ := redP_le w w.length
  have hm := red_mem (Q := fun x => -8 ≤ x ∧ x ≤ 8) hq
  constructor
  · show (Fg.strip _ _).length ≤ 24
    have : (Fg.red w).length ≤ w.length := by rw [← e]; unfold redL; simp; omega
    omega
  · intro x hx
    have := h2 x hx
    rw [← e] at this
    exact hm x (List.mem_of_mem_take this)
end Go.Proofs.YtffiddkignmobaaDoorTv
end
section
open Go Go.Proofs.YtffiddkignmobaaDoorVe Go.Proofs.YtffiddkignmobaaDoorTv Go.Proofs
namespace Go.Proofs.YtffiddkignmobaaDoorTv
set_option maxRecDepth 8000
set_option maxHeartbeats 2000000
def gc (a b : Int) : Int := (Int.gcd a b : Int)
theorem gcd_step {x y : Int} (h : y ≠ 0) : Int.gcd y (x.tmod y) = Int.gcd x y := by
  have h1 : (x.tmod y).natAbs = x.natAbs % y.natAbs := Int.natAbs_tmod x y
  unfold Int.gcd
  rw [h1, Nat.gcd_comm, ← Nat.gcd_rec, Nat.gcd_comm]
theorem absN (n : Int) : absI n = (n.natAbs : Int) := by unfold absI; omega
theorem sizeN (n : Int) (h : -1000000 ≤ n ∧ n ≤ 1000000) : ConS Tryd.prog 182 [.i n] (.i n.natAbs) := absN n ▸ sizeI n h
theorem l3AbsN (n : Int) (h : -1000000 ≤ n ∧ n ≤ 1000000) : ConS Tryd.prog 128 [.i n] (.i n.natAbs) := absN n ▸ l3Abs n h
theorem tmod_lt {x y : Int} (h : y ≠ 0) : (x.tmod y).natAbs < y.natAbs := by
  rw [Int.natAbs_tmod]
  exact Nat.mod_lt _ (by omega)
theorem gcdI (a b : Int) (ha : -1000000 ≤ a ∧ a ≤ 1000000) (hb : -1000000 ≤ b ∧ b ≤ 1000000) : ConS Tryd.prog 206 [.i a, .i b] (.i (gc a b)) := by
  refine conS_of hmix hTab Tryd.func206 rfl rfl (by kernel_rfl) (by show 2 ≤ Tryd.f206.ntmps; decide) rfl ?_
  refine stp ?_; try with_reducible exact True.intro
  refine useT ((sizeN a ha).toT) ?_; try with_reducible exact True.intro
  refine useT ((sizeN b hb).toT) ?_; try with_reducible exact True.intro
  refine ⟨Int × Int, fun p => Int.gcd p.1 p.2 = Int.gcd a b ∧ 0 ≤ p.1 ∧ 0 ≤ p.2, fun p => p.2.toNat, fun p => [(0, .i p.1), (1, .i p.2)], fun _ => [], ⟨((a.natAbs : Int), (b.natAbs : Int)), (fitK [] []), by simp [Int.gcd], by omega, by omega⟩, fun ⟨x, y⟩ ⟨hi, h1, h2⟩ => ?_⟩
  dsimp only at hi h1 h2 ⊢
  refine stp ?_; try with_reducible exact True.intro
  refine Br.mk (fun h3 => ?_) (fun h3 => ?_) <;> simp [-Int.ofNat_toNat] at h3
  · have h4 := tmod_lt (x := x) h3
    have h5 := Int.tmod_nonneg y h1
    have h6 := gcd_step (x := x) h3
    refine stp ?_; try with_reducible exact True.intro
    refine ⟨(y, x.tmod y), (fitK [] []), ⟨?_, h2, h5⟩, ?_⟩
    · dsimp only; rw [h6]; exact hi
    · dsimp only; revert h4 h5; generalize x.tmod y = z; intro h4 h5; omega
  · obtain rfl : y = 0 := by omega
    refine stp ?_; try with_reducible exact True.intro
    refine congrArg (fun x : Int => V.i x) ?_
    unfold gc
    rw [← hi]
    simp [Int.gcd]
    omega
theorem gcdS (a b : Int) (ha : -1000000 ≤ a ∧ a ≤ 1000000) (hb : -1000000 ≤ b ∧ b ≤ 1000000) : ConS Tryd.prog 204 [.i a, .i b] (.i (gc a b)) := by
  refine conS_of hmix hTab Tryd.func204 rfl rfl (by kernel_rfl) (by show 2 ≤ Tryd.f204.ntmps; decide) rfl ?_
  refine stp ?_; try with_reducible exact True.intro
  refine ⟨Int × Int, fun p => Int.gcd p.1 p.2 = Int.gcd a b ∧ (-1000000 ≤ p.1 ∧ p.1 ≤ 1000000) ∧ (-1000000 ≤ p.2 ∧ p.2 ≤ 1000000), fun p => p.2.natAbs, fun p => [(0, .i p.1), (1, .i p.2)], fun _ => [], ⟨(a, b), (fitK [] []), rfl, ha, hb⟩, fun ⟨x, y⟩ ⟨hi, h1, h2⟩ => ?_⟩
  dsimp only at hi h1 h2 ⊢
  refine stp ?_; try with_reducible exact True.intro
  refine Br.mk (fun h3 => ?_) (fun h3 => ?_) <;> simp [-Int.ofNat_toNat] at h3
  · have h4 := tmod_lt (x := x) h3
    have h6 := gcd_step (x := x) h3
    refine stp ?_; try with_reducible exact True.intro
    refine ⟨(y, x.tmod y), (fitK [] []), ⟨?_, h2, ?_⟩, ?_⟩
    · dsimp only; rw [h6]; exact hi
    · dsimp only; revert h4; generalize x.tmod y = z; intro h4; omega
    · exact h4
  · obtain rfl : y = 0 := by omega
    refine stp ?_; try with_reducible exact True.intro
    refine useT ((l3AbsN x h1).toT) ?_; try with_reducible exact True.intro
    refine congrArg (fun x : Int => V.i x) ?_
    unfold gc
    rw [← hi]
    simp [Int.gcd]
end Go.Proofs.YtffiddkignmobaaDoorTv
end
section
open Go Go.Proofs.YtffiddkignmobaaDoorVe Go.Proofs.YtffiddkignmobaaDoorTv Go.Proofs
namespace Go.Proofs.YtffiddkignmobaaDoorTv
set_option maxRecDepth 8000
set_option maxHeartbeats 2000000
abbrev slV (x : Int × Int) : V := .agg [.i x.1, .i x.2]
def slo (p q : Int) : Int × Int := if q < 0 ∨ (q = 0 ∧ p < 0) then (-(p.tdiv (gc p q)), -(q.tdiv (gc p q))) else (p.tdiv (gc p q), q.tdiv (gc p q))
structure GcF (p q : Int) : Prop where
  pos : 0 < gc p q
  le : gc p q ≤ 1000
  pr : -1000 ≤ p.tdiv (gc p q) ∧ p.tdiv (gc p q) ≤ 1000
  qr : -1000 ≤ q.tdiv (gc p q) ∧ q.tdiv (gc p q) ≤ 1000
  pn : p.tdiv (gc p q) < 0 ↔ p < 0
  qn : q.tdiv (gc p q) < 0 ↔ q < 0
  qz : q.tdiv (gc p q) = 0 ↔ q = 0
theorem gc_f {p q : Int} (hp : -1000 ≤ p ∧ p ≤ 1000) (hq : -1000 ≤ q ∧ q ≤ 1000) (hz : ¬(p = 0 ∧ q = 0)) : GcF p q := by
  have h0 : 0 < gc p q := by
    unfold gc
    have : Int.gcd p q ≠ 0 := fun h => hz ⟨(Int.gcd_eq_zero_iff.1 h).1, (Int.gcd_eq_zero_iff.1 h).2⟩
    omega
  have hle : gc p q ≤ 1000 := by
    unfold gc
    by_cases h : p = 0
    · subst h; simp; omega
    · have := Nat.gcd_le_left q.natAbs (show 0 < p.natAbs by omega)
      unfold Int.gcd
      omega
  have dp : gc p q ∣ p := Int.gcd_dvd_left ..
  have dq : gc p q ∣ q := Int.gcd_dvd_right ..
  obtain ⟨a, ha⟩ := dp
  obtain ⟨b, hb⟩ := dq
  generalize hg : gc p q = d at *
  subst ha hb
  have e1 : (d * a).tdiv d = a := Int.mul_tdiv_cancel_left _ (by omega)
  have e2 : (d * b).tdiv d = b := Int.mul_tdiv_cancel_left _ (by omega)
  have s : ∀ x : Int, (x < 0 ↔ d * x < 0) ∧ (x = 0 ↔ d * x = 0) ∧ (x.natAbs ≤ (d * x).natAbs) := fun x => by
    refine ⟨⟨fun h => Int.mul_neg_of_pos_of_neg h0 h, fun h => ?_⟩, ⟨fun h => by rw [h, Int.mul_zero], fun h => ?_⟩, ?_⟩
    · by_cases h1 : x < 0
      · exact h1
      · have := Int.mul_nonneg (Int.le_of_lt h0) (show 0 ≤ x by omega)
        omega
    · rcases Int.mul_eq_zero.1 h with h1 | h1 <;> omega
    · rw [Int.natAbs_mul]
      exact Nat.le_mul_of_pos_left _ (by omega)
  have sa := s a
  have sb := s b
  refine ⟨?_, ?_, ?_, ?_, ?_, ?_, ?_⟩ <;> simp only [hg, e1, e2]
  · exact h0
  · exact hle
  · omega
  · omega
  · exact sa.1
  · exact sb.1
  · exact sb.2.1
theorem lowest (p q : Int) (hp : -1000 ≤ p ∧ p ≤ 1000) (hq : -1000 ≤ q ∧ q ≤ 1000) (hz : ¬(p = 0 ∧ q = 0)) : ConS Tryd.prog 205 [.i p, .i q] (slV (slo p q)) := by
  obtain ⟨f0, fl, fp, fq, f1, f2, f3⟩ := gc_f hp hq hz
  have w := gcdI p q (by omega) (by omega)
  unfold slo
  refine conS_of hmix hTab Tryd.func205 rfl rfl (by kernel_rfl) (by show 2 ≤ Tryd.f205.ntmps; decide) rfl ?_
  refine stp ?_; try with_reducible exact True.intro
  generalize gc p q = d at *
  refine useT (w.toT) ?_; try with_reducible exact True.intro
  generalize p.tdiv d = a at *
  generalize q.tdiv d = b at *
  refine Br.mk (fun h1 => ?_) (fun h1 => ?_) <;> simp [-Int.ofNat_toNat] at h1
  · refine stp ?_; try with_reducible exact True.intro
    rw [if_pos (by omega)]; rfl
  · refine stp ?_; try with_reducible exact True.intro
    refine Br.mk (fun h2 => ?_) (fun h2 => ?_) <;> simp [-Int.ofNat_toNat] at h2
    · refine stp ?_; try with_reducible exact True.intro
      refine Br.mk (fun h3 => ?_) (fun h3 => ?_) <;> simp [-Int.ofNat_toNat] at h3
      · refine stp ?_; try with_reducible exact True.intro
        rw [if_pos (by omega)]; rfl
      · refine stp ?_; try with_reducible exact True.intro
        rw [if_neg (by omega)]; rfl
    · refine stp ?_; try with_reducible exact True.intro
      rw [if_neg (by omega)]; rfl
def slO (p q : Int) : (Int × Int) × Bool := if (-1000 ≤ p ∧ p ≤ 1000) ∧ (-1000 ≤ q ∧ q ≤ 1000) ∧ ¬(p = 0 ∧ q = 0) then (slo p q, true) else ((0, 0), false)
abbrev slOV (x : (Int × Int) × Bool) : V := .tup [slV x.1, .b x.2]
theorem SlopeOfI (p q : Int) : ConS Tryd.prog 108 [.i p, .i q] (slOV (slO p q)) := by
  have w1 := within p (-1000) 1000
  have w2 := within q (-1000) 1000
  have w3 := lowest p q
  unfold slO
  refine conS_of hmix hTab Tryd.func108 rfl rfl (by kernel_rfl) (by show 2 ≤ Tryd.f108.ntmps; decide) rfl ?_
  refine stp ?_; try with_reducible exact True.intro
  refine Br.mk (fun h1 => ?_) (fun h1 => ?_) <;> simp [-Int.ofNat_toNat] at h1
  · refine stp ?_; try with_reducible exact True.intro
    refine Br.mk (fun h2 => ?_) (fun h2 => ?_) <;> simp [-Int.ofNat_toNat] at h2
    · refine stp ?_; try with_reducible exact True.intro
      rw [if_neg (by omega)]; rfl
    · refine stp ?_; try with_reducible exact True.intro
      refine useT (w1.toT) ?_; try with_reducible exact True.intro
      refine Br.mk (fun h3 => ?_) (fun h3 => ?_) <;> simp [-Int.ofNat_toNat] at h3
      · refine stp ?_; try with_reducible exact True.intro
        rw [if_neg (by omega)]; rfl
      · refine stp ?_; try with_reducible exact True.intro
        refine useT (w2.toT) ?_; try with_reducible exact True.intro
        refine Br.mk (fun h4 => ?_) (fun h4 => ?_) <;> simp [-Int.ofNat_toNat] at h4
        · refine stp ?_; try with_reducible exact True.intro
          rw [if_neg (by omega)]; rfl
        · rw [if_pos (by omega)]
          refine stp ?_; try with_reducible exact True.intro
          refine useT ((w3 (by omega) (by omega) (by omega)).toT) ?_; try with_reducible exact True.intro
          try rfl
  · refine stp ?_; try with_reducible exact True.intro
    refine useT (w1.toT) ?_; try with_reducible exact True.intro
    refine Br.mk (fun h3 => ?_) (fun h3 => ?_) <;> simp [-Int.ofNat_toNat] at h3
    · refine stp ?_; try with_reducible exact True.intro
      rw [if_neg (by omega)]; rfl
    · refine stp ?_; try with_reducible exact True.intro
      refine useT (w2.toT) ?_; try with_reducible exact True.intro
      refine Br.mk (fun h4 => ?_) (fun h4 => ?_) <;> simp [-Int.ofNat_toNat] at h4
      · refine stp ?_; try with_reducible exact True.intro
        rw [if_neg (by omega)]; rfl
      · rw [if_pos (by omega)]
        refine stp ?_; try with_reducible exact True.intro
        refine useT ((w3 (by omega) (by omega) (by omega)).toT) ?_; try with_reducible exact True.intro
        try rfl
theorem SlopeOfS (p q : Int) : ConS Tryd.prog 103 [.i p, .i q] (slOV (slO p q)) := by
  have w1 := l1In p (-1000) 1000
  have w2 := l1In q (-1000) 1000
  have w3 := gcdS p q
  have fc := @gc_f p q
  unfold slO
  refine conS_of hmix hTab Tryd.func103 rfl rfl (by kernel_rfl) (by show 2 ≤ Tryd.f103.ntmps; decide) rfl ?_
  refine stp ?_; try with_reducible exact True.intro
  refine useT (w1.toT) ?_; try with_reducible exact True.intro
  refine Br.mk (fun h3 => ?_) (fun h3 => ?_) <;> simp [-Int.ofNat_toNat] at h3
  · refine stp ?_; try with_reducible exact True.intro
    rw [if_neg (by omega)]; rfl
  · refine stp ?_; try with_reducible exact True.intro
    refine useT (w2.toT) ?_; try with_reducible exact True.intro
    refine Br.mk (fun h4 => ?_) (fun h4 => ?_) <;> simp [-Int.ofNat_toNat] at h4
    · refine stp ?_; try with_reducible exact True.intro
      rw [if_neg (by omega)]; rfl
    · refine stp ?_; try with_reducible exact True.intro
      refine Br.mk (fun h1 => ?_) (fun h1 => ?_) <;> simp [-Int.ofNat_toNat] at h1
      · refine stp ?_; try with_reducible exact True.intro
        refine Br.mk (fun h2 => ?_) (fun h2 => ?_) <;> simp [-Int.ofNat_toNat] at h2
        · refine stp ?_; try with_reducible exact True.intro
          rw [if_neg (by omega)]; rfl
        · refine stp ?_; try with_reducible exact True.intro
          obtain ⟨f0, fl, fp, fq, f1, f2, f3⟩ := fc (by omega) (by omega) (by omega)
          have w3 := w3 (by omega) (by omega)
          rw [if_pos (by omega)]
          unfold slo
          generalize gc p q = d at *
          refine useT (w3.toT) ?_; try with_reducible exact True.intro
          refine Br.mk (fun h5 => ?_) (fun h5 => ?_) <;> simp [-Int.ofNat_toNat] at h5
          · refine stp ?_; try with_reducible exact True.intro
            first | (rw [if_pos (by omega), Int.tdiv_neg, Int.tdiv_neg]; rfl) | (rw [if_neg (by omega)]; rfl)
          · refine stp ?_; try with_reducible exact True.intro
            refine Br.mk (fun h6 => ?_) (fun h6 => ?_) <;> simp [-Int.ofNat_toNat] at h6
            · refine stp ?_; try with_reducible exact True.intro
              refine Br.mk (fun h7 => ?_) (fun h7 => ?_) <;> simp [-Int.ofNat_toNat] at h7
              · refine stp ?_; try with_reducible exact True.intro
                first | (rw [if_pos (by omega), Int.tdiv_neg, Int.tdiv_neg]; rfl) | (rw [if_neg (by omega)]; rfl)
              · refine stp ?_; try with_reducible exact True.intro
                first | (rw [if_pos (by omega), Int.tdiv_neg, Int.tdiv_neg]; rfl) | (rw [if_neg (by omega)]; rfl)
            · refine stp ?_; try with_reducible exact True.intro
              first | (rw [if_pos (by omega), Int.tdiv_neg, Int.tdiv_neg]; rfl) | (rw [if_neg (by omega)]; rfl)
      · refine stp ?_; try with_reducible exact True.intro
        obtain ⟨f0, fl, fp, fq, f1, f2, f3⟩ := fc (by omega) (by omega) (by omega)
        have w3 := w3 (by omega) (by omega)
        rw [if_pos (by omega)]
        unfold slo
        generalize gc p q = d at *
        refine useT (w3.toT) ?_; try with_reducible exact True.intro
        refine Br.mk (fun h5 => ?_) (fun h5 => ?_) <;> simp [-Int.ofNat_toNat] at h5
        · refine stp ?_; try with_reducible exact True.intro
          first | (rw [if_pos (by omega), Int.tdiv_neg, Int.tdiv_neg]; rfl) | (rw [if_neg (by omega)]; rfl)
        · refine stp ?_; try with_reducible exact True.intro
          refine Br.mk (fun h6 => ?_) (fun h6 => ?_) <;> simp [-Int.ofNat_toNat] at h6
          · refine stp ?_; try with_reducible exact True.intro
            refine Br.mk (fun h7 => ?_) (fun h7 => ?_) <;> simp [-Int.ofNat_toNat] at h7
            · refine stp ?_; try with_reducible exact True.intro
              first | (rw [if_pos (by omega), Int.tdiv_neg, Int.tdiv_neg]; rfl) | (rw [if_neg (by omega)]; rfl)
            · refine stp ?_; try with_reducible exact True.intro
              first | (rw [if_pos (by omega), Int.tdiv_neg, Int.tdiv_neg]; rfl) | (rw [if_neg (by omega)]; rfl)
          · refine stp ?_; try with_reducible exact True.intro
            first | (rw [if_pos (by omega), Int.tdiv_neg, Int.tdiv_neg]; rfl) | (rw [if_neg (by omega)]; rfl)
def isSlp (x : Int × Int) : Bool := decide ((-1000 ≤ x.1 ∧ x.1 ≤ 1000) ∧ (0 ≤ x.2 ∧ x.2 ≤ 1000) ∧ (0 < x.2 ∨ x.1 = 1) ∧ gc x.1 x.2 = 1)
theorem IsSlopeI (p q : Int) : ConS Tryd.prog 109 [slV (p, q)] (.b (isSlp (p, q))) := by
  have w1 := within p (-1000) 1000
  have w2 := within q 0 1000
  have w3 := gcdI p q
  unfold isSlp
  refine conS_of hmix hTab Tryd.func109 rfl rfl (by kernel_rfl) (by show 1 ≤ Tryd.f109.ntmps; decide) rfl ?_
  dsimp only [slV]
  refine stp ?_; try with_reducible exact True.intro
  refine useT (w1.toT) ?_; try with_reducible exact True.intro
  refine Br.mk (fun h3 => ?_) (fun h3 => ?_) <;> simp [-Int.ofNat_toNat] at h3
  · refine stp ?_; try with_reducible exact True.intro
    rw [decide_eq_false (by omega)]
  · refine stp ?_; try with_reducible exact True.intro
    refine useT (w2.toT) ?_; try with_reducible exact True.intro
    refine Br.mk (fun h4 => ?_) (fun h4 => ?_) <;> simp [-Int.ofNat_toNat] at h4
    · refine stp ?_; try with_reducible exact True.intro
      rw [decide_eq_false (by omega)]
    · have w3 := w3 (by omega) (by omega)
      refine stp ?_; try with_reducible exact True.intro
      generalize gc p q = d at *
      refine useT (w3.toT) ?_; try with_reducible exact True.intro
      refine Br.mk (fun h5 => ?_) (fun h5 => ?_) <;> simp [-Int.ofNat_toNat] at h5
      · refine stp ?_; try with_reducible exact True.intro
        rw [decide_eq_false (by omega)]
      · refine stp ?_; try with_reducible exact True.intro
        refine Br.mk (fun h6 => ?_) (fun h6 => ?_) <;> simp [-Int.ofNat_toNat] at h6
        · refine stp ?_; try with_reducible exact True.intro
          rw [decide_eq_true (by omega)]
        · refine stp ?_; try with_reducible exact True.intro
          exact congrArg (fun b : Bool => V.b b) (decide_eq_decide.2 (by omega))
theorem IsSlopeS (p q : Int) : ConS Tryd.prog 104 [slV (p, q)] (.b (isSlp (p, q))) := by
  have w1 := l1In p (-1000) 1000
  have w2 := l1In q 0 1000
  have w3 := gcdS p q
  unfold isSlp
  refine conS_of hmix hTab Tryd.func104 rfl rfl (by kernel_rfl) (by show 1 ≤ Tryd.f104.ntmps; decide) rfl ?_
  dsimp only [slV]
  refine stp ?_; try with_reducible exact True.intro
  refine useT (w1.toT) ?_; try with_reducible exact True.intro
  refine Br.mk (fun h3 => ?_) (fun h3 => ?_) <;> simp [-Int.ofNat_toNat] at h3
  · refine stp ?_; try with_reducible exact True.intro
    rw [decide_eq_false (by omega)]
  · refine stp ?_; try with_reducible exact True.intro
    refine useT (w2.toT) ?_; try with_reducible exact True.intro
    refine Br.mk (fun h4 => ?_) (fun h4 => ?_) <;> simp [-Int.ofNat_toNat] at h4
    · refine stp ?_; try with_reducible exact True.intro
      rw [decide_eq_false (by omega)]
    · have w3 := w3 (by omega) (by omega)
      generalize gc p q = d at *
      refine stp ?_; try with_reducible exact True.intro
      refine Br.mk (fun h5 => ?_) (fun h5 => ?_) <;> simp [-Int.ofNat_toNat] at h5
      · refine stp ?_; try with_reducible exact True.intro
        refine Br.mk (fun h6 => ?_) (fun h6 => ?_) <;> simp [-Int.ofNat_toNat] at h6
        · refine stp ?_; try with_reducible exact True.intro
          rw [decide_eq_false (by omega)]
        · refine stp ?_; try with_reducible exact True.intro
          refine useT (w3.toT) ?_; try with_reducible exact True.intro
          exact congrArg (fun b : Bool => V.b b) (decide_eq_decide.2 (by omega))
      · refine stp ?_; try with_reducible exact True.intro
        refine useT (w3.toT) ?_; try with_reducible exact True.intro
        exact congrArg (fun b : Bool => V.b b) (decide_eq_decide.2 (by omega))
end Go.Proofs.YtffiddkignmobaaDoorTv
end
section
open Go Go.Proofs.YtffiddkignmobaaDoorVe Go.Proofs.YtffiddkignmobaaDoorTv Go.Proofs
namespace Go.Proofs.YtffiddkignmobaaDoorTv
set_option maxRecDepth 8000
set_option maxHeartbeats 2000000
def rotL (w : List Int) (k : Nat) : List Int := w.drop k ++ w.take k
theorem rotL_len (w : List Int) (k : Nat) : (rotL w k).length = w.length := by unfold rotL; simp; omega
theorem modI {k n : Int} (h : 0 ≤ k ∧ k < n) (hn : n ≤ 1000000) : ConS Tryd.prog 219 [.i k, .i n] (.i k) := by
  have e : k.tmod n = k := Int.tmod_eq_of_lt h.1 h.2
  refine conS_of hmix hTab Tryd.func219 rfl rfl (by kernel_rfl) (by show 2 ≤ Tryd.f219.ntmps; decide) rfl ?_
  refine stp ?_; try with_reducible exact True.intro
  refine brF (by rw [e]; exact decide_eq_false (by omega)) ?_
  refine stp ?_; try with_reducible exact True.intro
  rw [e]
theorem turnI {w : List Int} {k : Nat} (hw : (w.length : Int) ≤ 1000) (hk : k < w.length ∨ (w = [] ∧ k = 0)) : ConT Tryd.prog 140 [.il w, .i k] (.own 0 0 (rotL w k).length) [.arr (.int .i64) (rotL w k) true] := by
  refine conT_of hmix hTab Tryd.func140 rfl rfl (by kernel_rfl) (by show 2 ≤ Tryd.f140.ntmps; decide) ?_
  rcases hk with hk | ⟨rfl, rfl⟩
  · have hm := modI (k := k) (n := w.length) (by omega) (by omega)
    refine stp ?_; try with_reducible exact True.intro
    refine brF (decide_eq_false (by omega)) ?_
    refine stp ?_; try with_reducible exact True.intro
    refine useT (hm.toT) ?_; try with_reducible exact True.intro
    refine .inr ⟨_, _, _, copyOfW ((w.drop ((k : Int)).toNat).take ((w.length : Int) - (k : Int)).toNat) (by simp; omega), by repeat (first | exact trivial | refine ⟨by first | exact rfl | exact trivial | exact ⟨_, rfl, rfl⟩ | exact ⟨_, _, rfl, by first | (simp; done) | (simp; omega), by first | (simp; done) | (simp [List.take_of_length_le]; done) | (rw [List.drop_zero]; exact List.take_of_length_le (by first | omega | (simp; omega))) | (simp [List.take_of_length_le]; omega)⟩ | exact ⟨_, rfl, by first | (simp; done) | (simp; omega), by first | (simp; done) | (simp [List.take_of_length_le]; done) | (rw [List.drop_zero]; exact List.take_of_length_le (by first | omega | (simp; omega))) | (simp [List.take_of_length_le]; omega)⟩, ?_⟩), rfl, rfl, by first | exact ⟨rfl, trivial⟩ | decide | (simp [okOs, okO]; done) | (simp [okOs, okO, okWs, okW, most]; done) | (simp [okOs, okO, okWs, okW, most]; omega), ?_⟩; refine stp ?_; try with_reducible exact True.intro
    have e1 : (w.drop ((k : Int)).toNat).take ((w.length : Int) - (k : Int)).toNat = w.drop k := by rw [Int.toNat_natCast]; exact List.take_of_length_le (by rw [List.length_drop]; omega)
    have e2 : (w.drop (Int.toNat 0)).take ((k : Int) - 0).toNat = w.take k := by simp
    refine ⟨.frz [], [1], ⟨?_, trivial⟩, ⟨?_, trivial⟩, by decide, rfl, rfl, rfl⟩
    · show V.own 1 0 _ = V.own 1 0 _
      rw [e1, e2]
      congr 1
      simp [rotL]
    · show some (Obj.arr _ _ _) = some (Obj.arr _ _ _)
      rw [e1, e2, List.drop_zero, List.take_length]
      rfl
  · refine stp ?_; try with_reducible exact True.intro
    exact (fitK [] [0])
theorem turnS {w : List Int} {k : Nat} (hw : (w.length : Int) ≤ 1000) (hk : k < w.length ∨ (w = [] ∧ k = 0)) : ConT Tryd.prog 132 [.il w, .i k] (.own 0 0 (rotL w k).length) [.arr (.int .i64) (rotL w k) true] := by
  refine conT_of hmix hTab Tryd.func132 rfl rfl (by kernel_rfl) (by show 2 ≤ Tryd.f132.ntmps; decide) ?_
  rcases hk with hk | ⟨rfl, rfl⟩
  · have e : (k : Int).tmod w.length = k := Int.tmod_eq_of_lt (by omega) (by omega)
    refine stp ?_; try with_reducible exact True.intro
    refine brF (decide_eq_false (by omega)) ?_
    refine stp ?_; try with_reducible exact True.intro
    rw [e]
    have e1 : (w.drop ((k : Int)).toNat).take ((w.length : Int) - (k : Int)).toNat = w.drop k := by rw [Int.toNat_natCast]; exact List.take_of_length_le (by rw [List.length_drop]; omega)
    have e2 : (w.drop (Int.toNat 0)).take ((k : Int) - 0).toNat = w.take k := by simp
    refine ⟨.frz [], [2], ⟨?_, trivial⟩, ⟨?_, trivial⟩, by decide, rfl, rfl, rfl⟩
    · show V.own 2 0 _ = V.own 2 0 _
      rw [e1, e2]
      congr 1
      simp [rotL]
    · show some (Obj.arr _ _ _) = some (Obj.arr _ _ _)
      simp only [e, e1, e2, List.drop_zero, List.take_length, List.nil_append]
      rw [List.take_of_length_le (by simp)]
      rfl
  · refine stp ?_; try with_reducible exact True.intro
    exact (fitK [] [0])
def rotB (a b : List Int) : Bool := decide (a.length = b.length) && (List.range (max a.length 1)).any fun k => decide (rotL a k = b)
theorem rotB_iff {a b : List Int} : rotB a b = true ↔ Fg.Rot a b := by
  unfold rotB
  rw [Bool.and_eq_true, decide_eq_true_eq, List.any_eq_true]
  constructor
  · rintro ⟨_, k, _, h⟩
    exact ⟨a.take k, a.drop k, (List.take_append_drop k a).symm, (of_decide_eq_true h).symm⟩
  · rintro ⟨p, q, rfl, rfl⟩
    refine ⟨by simp; omega, ?_⟩
    by_cases hq : q = []
    · subst hq
      exact ⟨0, List.mem_range.2 (by omega), by simp [rotL]⟩
    · refine ⟨p.length, List.mem_range.2 ?_, by simp [rotL]⟩
      have := List.length_pos_iff.2 hq
      rw [List.length_append]
      omega
def conjM (v w : List Int) : Bool := wordOk v && (wordOk w && rotB (Fg.core v) (Fg.core w))
theorem conjM_comm (v w : List Int) : conjM v w = conjM w v := by
  have e : rotB (Fg.core v) (Fg.core w) = rotB (Fg.core w) (Fg.core v) := by
    rw [Bool.eq_iff_iff, rotB_iff, rotB_iff]
    exact ⟨Fg.Rot.symm, Fg.Rot.symm⟩
  unfold conjM
  rw [e]
  cases wordOk v <;> cases wordOk w <;> rfl
theorem AreConjugateI (v w : List Int) (hv : (v.length : Int) ≤ 274877906944) (hw : (w.length : Int) ≤ 274877906944) : ConS Tryd.prog 221 [.il v, .il w] (.b (conjM v w)) := by
  have i1 := IsWordI v hv
  have i2 := IsWordI w hw
  have c1 := @CoreWordI v
  have c2 := @CoreWordI w
  have f1 := @core_len v
  have f2 := @core_len w
  unfold conjM
  generalize wordOk v = a at *
  generalize wordOk w = b at *
  refine conS_of hmix hTab Tryd.func221 rfl rfl (by kernel_rfl) (by show 2 ≤ Tryd.f221.ntmps; decide) rfl ?_
  refine stp ?_; try with_reducible exact True.intro
  refine useT (i1.toT) ?_; try with_reducible exact True.intro
  cases a with
  | false =>
    refine stp ?_; try with_reducible exact True.intro
    rfl
  | true =>
    refine stp ?_; try with_reducible exact True.intro
    refine useT (i2.toT) ?_; try with_reducible exact True.intro
    cases b with
    | false =>
      refine stp ?_; try with_reducible exact True.intro
      rfl
    | true =>
      have c1 := c1 rfl
      have c2 := c2 rfl
      have f1 := (f1 rfl).1
      have f2 := (f2 rfl).1
      refine stp ?_; try with_reducible exact True.intro
      refine useT (c1) ?_; try with_reducible exact True.intro
      refine useT (c2) ?_; try with_reducible exact True.intro
      generalize Fg.core v = x at *
      generalize Fg.core w = y at *
      refine Br.mk (fun h1 => ?_) (fun h1 => ?_) <;> simp [-Int.ofNat_toNat] at h1
      · refine stp ?_; try with_reducible exact True.intro
        rw [show rotB x y = false by unfold rotB; rw [decide_eq_false (by omega)]; rfl]
        rfl
      · have hxy : x.length = y.length := by omega
        refine stp ?_; try with_reducible exact True.intro
        have hmx : maxI (x.length : Int) 1 = (max x.length 1 : Nat) := by unfold maxI; split <;> omega
        refine ⟨Nat, fun k => k ≤ max x.length 1 ∧ ∀ j, j < k → rotL x j ≠ y, fun k => 30 - k, fun k => [(5, .own 0 0 x.length), (6, .own 1 0 y.length), (27, .i (maxI x.length 1)), (28, .i k)], fun k => [.arr (.int .i64) x true, .arr (.int .i64) y true], ⟨0, (fitK [] [0, 1]), Nat.zero_le _, fun j hj => by omega⟩, fun k ⟨hk, hs⟩ => ?_⟩
        dsimp only at hk hs ⊢
        refine stp ?_; try with_reducible exact True.intro
        refine Br.mk (fun h2 => ?_) (fun h2 => ?_) <;> simp [-Int.ofNat_toNat] at h2
        · have hkk : k < x.length ∨ (x = [] ∧ k = 0) := by
            by_cases h0 : x = []
            · have : x.length = 0 := by rw [h0]; rfl
              exact .inr ⟨h0, by omega⟩
            · have := List.length_pos_iff.2 h0; omega
          refine stp ?_; try with_reducible exact True.intro
          refine useT ((turnI (by omega) hkk)) ?_; try with_reducible exact True.intro
          refine useT ((sameI (rotL x k) y (by rw [rotL_len]; omega)).toT) ?_; try with_reducible exact True.intro
          cases hd : decide (rotL x k = y) with
          | true =>
            refine stp ?_; try with_reducible exact True.intro
            rw [show rotB x y = true from rotB_iff.2 ⟨x.take k, x.drop k, (List.take_append_drop k x).symm, (of_decide_eq_true hd).symm⟩]
            rfl
          | false =>
            refine stp ?_; try with_reducible exact True.intro
            refine ⟨k + 1, (fitK [] [0, 1]), ⟨by omega, fun j hj => ?_⟩, by omega⟩
            by_cases e : j = k
            · rw [e]; exact of_decide_eq_false hd
            · exact hs j (by omega)
        · refine stp ?_; try with_reducible exact True.intro
          rw [show rotB x y = false from ?_]
          · rfl
          unfold rotB
          rw [decide_eq_true hxy, List.any_eq_false.2 fun j hj => by simpa using hs j (by have := List.mem_range.1 hj; omega)]
          rfl
theorem AreConjugateS (v w : List Int) (hv : (v.length : Int) ≤ 274877906944) (hw : (w.length : Int) ≤ 274877906944) : ConS Tryd.prog 136 [.il v, .il w] (.b (conjM v w)) := by
  have i1 := IsWordS v hv
  have i2 := IsWordS w hw
  have c1 := @l2Core v
  have c2 := @l2Core w
  have f1 := @core_len v
  have f2 := @core_len w
  unfold conjM
  generalize wordOk v = a at *
  generalize wordOk w = b at *
  refine conS_of hmix hTab Tryd.func136 rfl rfl (by kernel_rfl) (by show 2 ≤ Tryd.f136.ntmps; decide) rfl ?_
  refine stp ?_; try with_reducible exact True.intro
  refine useT (i1.toT) ?_; try with_reducible exact True.intro
  cases a with
  | false =>
    refine stp ?_; try with_reducible exact True.intro
    rfl
  | true =>
    refine stp ?_; try with_reducible exact True.intro
    refine useT (i2.toT) ?_; try with_reducible exact True.intro
    cases b with
    | false =>
      refine stp ?_; try with_reducible exact True.intro
      rfl
    | true =>
      have c1 := c1 rfl
      have c2 := c2 rfl
      have f1 := (f1 rfl).1
      have f2 := (f2 rfl).1
      refine stp ?_; try with_reducible exact True.intro
      refine useT (c1) ?_; try with_reducible exact True.intro
      refine useT (c2) ?_; try with_reducible exact True.intro
      generalize Fg.core v = x at *
      generalize Fg.core w = y at *
      refine ⟨Nat, fun k => k ≤ x.length ∧ ∀ j, j < k → rotL x j ≠ y, fun k => 30 - k, fun k => [(5, .own 0 0 x.length), (6, .own 1 0 y.length), (7, .i k)], fun k => [.arr (.int .i64) x true, .arr (.int .i64) y true], ⟨0, (fitK [] [0, 1]), Nat.zero_le _, fun j hj => by omega⟩, fun k ⟨hk, hs⟩ => ?_⟩
      dsimp only at hk hs ⊢
      refine stp ?_; try with_reducible exact True.intro
      refine Br.mk (fun h2 => ?_) (fun h2 => ?_) <;> simp [-Int.ofNat_toNat] at h2
      · refine stp ?_; try with_reducible exact True.intro
        refine useT ((turnS (w := x) (k := k) (by omega) (.inl (by omega)))) ?_; try with_reducible exact True.intro
        refine useT ((sameS (rotL x k) y (by rw [rotL_len]; omega)).toT) ?_; try with_reducible exact True.intro
        cases hd : decide (rotL x k = y) with
        | true =>
          refine stp ?_; try with_reducible exact True.intro
          rw [show rotB x y = true from rotB_iff.2 ⟨x.take k, x.drop k, (List.take_append_drop k x).symm, (of_decide_eq_true hd).symm⟩]
          rfl
        | false =>
          refine stp ?_; try with_reducible exact True.intro
          refine ⟨k + 1, (fitK [] [0, 1]), ⟨by omega, fun j hj => ?_⟩, by omega⟩
          by_cases e : j = k
          · rw [e]; exact of_decide_eq_false hd
          · exact hs j (by omega)
      · have hkx : k = x.length := by omega
        subst hkx
        refine stp ?_; try with_reducible exact True.intro
        by_cases h3 : x.length = 0
        · refine brT (decide_eq_true (by omega)) ?_
          refine stp ?_; try with_reducible exact True.intro
          refine congrArg (fun b : Bool => V.b b) ?_
          have hx0 : x = [] := List.length_eq_zero_iff.1 (by omega)
          subst hx0
          rw [Bool.true_and, Bool.true_and, Bool.eq_iff_iff, rotB_iff, decide_eq_true_eq]
          constructor
          · intro h; rw [List.length_eq_zero_iff.1 (by omega : y.length = 0)]; exact Fg.Rot.refl _
          · intro h
            have := h.len
            rw [← this]
            exact congrArg (fun n : Nat => (n : Int)) h3
        · refine brF (decide_eq_false (by omega)) ?_
          refine stp ?_; try with_reducible exact True.intro
          rw [show rotB x y = false from ?_]
          · rfl
          unfold rotB
          rw [List.any_eq_false.2 fun j hj => by simpa using hs j (by have := List.mem_range.1 hj; omega), Bool.and_false]
end Go.Proofs.YtffiddkignmobaaDoorTv
end
section
open Go Go.Proofs.YtffiddkignmobaaDoorVe Go.Proofs.YtffiddkignmobaaDoorTv Go.Proofs
namespace Go.Proofs.YtffiddkignmobaaDoorTv
set_option maxRecDepth 8000
set_option maxHeartbeats 2000000
def lsB (c : List Int) (x : Int) : List Int := if 0 < x then c.set (x - 1).toNat (rd c (x - 1) + 1) else c.set (-x - 1).toNat (rd c (-x - 1) - 1)
def lsM (w : List Int) : List Int := w.foldl lsB (List.replicate 8 0)
theorem lsB_len (c : List Int) (x : Int) : (lsB c x).length = c.length := by unfold lsB; split <;> simp
theorem lsM_len (w : List Int) : (lsM w).length = 8 := by
  have : ∀ (w c : List Int), (w.foldl lsB c).length = c.length := by
    intro w
    induction w with
    | nil => intro c; rfl
    | cons x w ih => intro c; rw [List.foldl_cons, ih, lsB_len]
  unfold lsM
  rw [this]; rfl
theorem lsM_succ {w : List Int} {i : Nat} (h : i < w.length) : lsM (w.take (i + 1)) = lsB (lsM (w.take i)) (rd w i) := by
  unfold lsM
  rw [take_succA h, List.foldl_append]; rfl
theorem rd_set (c : List Int) (k : Nat) (v i : Int) (h : k < c.length) : rd (c.set k v) i = if i.toNat = k then v else rd c i := by
  unfold rd
  simp only [List.getD, List.getElem?_set]
  by_cases e : k = i.toNat
  · rw [if_pos e, if_pos e.symm, if_pos (by omega)]; rfl
  · rw [if_neg e, if_neg (fun h => e h.symm)]
theorem lsM_bd (w : List Int) (hq : ∀ x ∈ w, isLet x = true) : ∀ n, n ≤ w.length → ∀ i, -(n : Int) ≤ rd (lsM (w.take n)) i ∧ rd (lsM (w.take n)) i ≤ n := by
  intro n
  induction n with
  | zero =>
    intro _ i
    have : rd (lsM (w.take 0)) i = 0 := by
      show rd (List.replicate 8 0) i = 0
      unfold rd
      simp only [List.getD, List.getElem?_replicate]
      split <;> rfl
    omega
  | succ n ih =>
    intro hn i
    rw [lsM_succ (by omega)]
    have hx := hq _ (rd_memA (l := w) (j := n) (by omega))
    simp only [isLet, Bool.and_eq_true, decide_eq_true_eq] at hx
    have h0 := ih (by omega)
    have hl := lsM_len (w.take n)
    generalize rd w n = x at *
    generalize lsM (w.take n) = c at *
    unfold lsB
    split
    · rw [rd_set _ _ _ _ (by omega)]
      have := h0 (x - 1)
      have := h0 i
      split <;> omega
    · rw [rd_set _ _ _ _ (by omega)]
      have := h0 (-x - 1)
      have := h0 i
      split <;> omega
theorem word_let {w : List Int} (h : wordOk w = true) : w.length ≤ 24 ∧ ∀ x ∈ w, isLet x = true := by
  simp only [wordOk, Bool.and_eq_true, decide_eq_true_eq, List.all_eq_true] at h
  exact ⟨h.2, h.1⟩
theorem LetterSumsI {w : List Int} (hw : wordOk w = true) : ConT Tryd.prog 67 [.il w] (.own 0 0 8) [.arr (.int .i64) (lsM w) true] := by
  obtain ⟨hl, hq⟩ := word_let hw
  have hi := IsWordI w (by omega)
  rw [hw] at hi
  refine conT_of hmix hTab Tryd.func67 rfl rfl (by kernel_rfl) (by show 1 ≤ Tryd.f67.ntmps; decide) ?_
  refine stp ?_; try with_reducible exact True.intro
  refine useT (hi.toT) ?_; try with_reducible exact True.intro
  refine ⟨Nat, fun i => i ≤ w.length, fun i => w.length - i, fun i => [(3, .own 0 0 8), (10, .il w), (11, .i w.length), (12, .i i)], fun i => [.arr (.int .i64) (lsM (w.take i)) true], ⟨0, (fitK [] [0]), Nat.zero_le _⟩, fun i hi => ?_⟩
  dsimp only at hi ⊢
  refine stp ?_; try with_reducible exact True.intro
  refine Br.mk (fun h1 => ?_) (fun h1 => ?_) <;> simp [-Int.ofNat_toNat] at h1
  · have hx := hq _ (rd_memA h1)
    simp only [isLet, Bool.and_eq_true, decide_eq_true_eq] at hx
    have hb := lsM_bd w hq i hi
    have hlen := lsM_len (w.take i)
    have hs := lsM_succ h1
    unfold lsB at hs
    generalize lsM (w.take i) = c at *
    refine stp ?_; try with_reducible exact True.intro
    refine Br.mk (fun h2 => ?_) (fun h2 => ?_) <;> simp [-Int.ofNat_toNat] at h2
    · rw [if_pos h2] at hs
      have b1 := hb (rd w i - 1)
      have q1 : @Eq Int (rdT (.int .i64) c ((Int.toNat (rdT (.int .i64) w (i : Int) - 1) : Nat) : Int)) (rd c (rd w i - 1)) := rfl
      refine stp ?_; try with_reducible exact True.intro
      refine ⟨i + 1, ⟨.frz [], [0], ⟨rfl, rfl, rfl, rfl, trivial⟩, ⟨?_, trivial⟩, by decide, rfl, rfl, rfl⟩, by first | ((try dsimp only); omega) | (simp; omega), by first | ((try dsimp only); omega) | (simp; omega)⟩
      rw [hs]; rfl
    · rw [if_neg (by omega)] at hs
      have b1 := hb (-(rd w i) - 1)
      have q1 : @Eq Int (rdT (.int .i64) c ((Int.toNat (-(rdT (.int .i64) w (i : Int)) - 1) : Nat) : Int)) (rd c (-(rd w i) - 1)) := rfl
      refine stp ?_; try with_reducible exact True.intro
      refine ⟨i + 1, ⟨.frz [], [0], ⟨rfl, rfl, rfl, rfl, trivial⟩, ⟨?_, trivial⟩, by decide, rfl, rfl, rfl⟩, by first | ((try dsimp only); omega) | (simp; omega), by first | ((try dsimp only); omega) | (simp; omega)⟩
      rw [hs]; rfl
  · have e : i = w.length := by omega
    subst e
    rw [List.take_length]
    refine stp ?_; try with_reducible exact True.intro
    exact (fitK [] [0])
theorem LetterSumsS {w : List Int} (hw : wordOk w = true) : ConT Tryd.prog 59 [.il w] (.own 0 0 8) [.arr (.int .i64) (lsM w) true] := by
  obtain ⟨hl, hq⟩ := word_let hw
  have hi := IsWordS w (by omega)
  rw [hw] at hi
  refine conT_of hmix hTab Tryd.func59 rfl rfl (by kernel_rfl) (by show 1 ≤ Tryd.f59.ntmps; decide) ?_
  refine stp ?_; try with_reducible exact True.intro
  refine useT (hi.toT) ?_; try with_reducible exact True.intro
  refine ⟨Nat, fun i => i ≤ w.length, fun i => w.length - i, fun i => [(0, .il w), (3, .own 0 0 8), (4, .i i)], fun i => [.arr (.int .i64) (lsM (w.take i)) true], ⟨0, (fitK [] [0]), Nat.zero_le _⟩, fun i hi => ?_⟩
  dsimp only at hi ⊢
  refine stp ?_; try with_reducible exact True.intro
  refine Br.mk (fun h1 => ?_) (fun h1 => ?_) <;> simp [-Int.ofNat_toNat] at h1
  · have hx := hq _ (rd_memA h1)
    simp only [isLet, Bool.and_eq_true, decide_eq_true_eq] at hx
    have hb := lsM_bd w hq i hi
    have hlen := lsM_len (w.take i)
    have hs := lsM_succ h1
    unfold lsB at hs
    generalize lsM (w.take i) = c at *
    refine stp ?_; try with_reducible exact True.intro
    refine Br.mk (fun h2 => ?_) (fun h2 => ?_) <;> simp [-Int.ofNat_toNat] at h2
    · rw [if_pos h2] at hs
      have b1 := hb (rd w i - 1)
      have q1 : @Eq Int (rdT (.int .i64) c ((Int.toNat (rdT (.int .i64) w (i : Int) - 1) : Nat) : Int)) (rd c (rd w i - 1)) := rfl
      refine stp ?_; try with_reducible exact True.intro
      refine ⟨i + 1, ⟨.frz [], [0], ⟨rfl, rfl, rfl, trivial⟩, ⟨?_, trivial⟩, by decide, rfl, rfl, rfl⟩, by first | ((try dsimp only); omega) | (simp; omega), by first | ((try dsimp only); omega) | (simp; omega)⟩
      rw [hs]; rfl
    · rw [if_neg (by omega)] at hs
      have b1 := hb (-(rd w i) - 1)
      have q1 : @Eq Int (rdT (.int .i64) c ((Int.toNat (-(rdT (.int .i64) w (i : Int)) - 1) : Nat) : Int)) (rd c (-(rd w i) - 1)) := rfl
      refine stp ?_; try with_reducible exact True.intro
      refine ⟨i + 1, ⟨.frz [], [0], ⟨rfl, rfl, rfl, trivial⟩, ⟨?_, trivial⟩, by decide, rfl, rfl, rfl⟩, by first | ((try dsimp only); omega) | (simp; omega), by first | ((try dsimp only); omega) | (simp; omega)⟩
      rw [hs]; rfl
  · have e : i = w.length := by omega
    subst e
    rw [List.take_length]
    refine stp ?_; try with_reducible exact True.intro
    exact (fitK [] [0])
def lb (x : Int) : Int := if 0 < x then 96 + x else 64 - x
def wtM (w : List Int) : ByteArray := strOfNums (w.map lb)
def wtx (w : List Int) : ByteArray := if w = [] then ⟨#[45]⟩ else wtM w
theorem wtM_succ {w : List Int} {i : Nat} (h : i < w.length) : wtM (w.take (i + 1)) = wtM (w.take i) ++ strOfNums [lb (rd w i)] := by
  unfold wtM strOfNums
  rw [take_succA h]
  apply ByteArray.ext
  simp [ByteArray.data_append]
theorem wtM_size (w : List Int) : (wtM w).size = w.length := by unfold wtM strOfNums; simp [ByteArray.size]
theorem u8i {e : Int} (h0 : 0 ≤ e) (h1 : e ≤ 255) : IntKind.u8.wrap e = e := by
  simp [IntKind.wrap, IntKind.signed, IntKind.bits]; omega
theorem letterText {x : Int} (h : -8 ≤ x ∧ x ≤ 8) : ConS Tryd.prog 143 [.i x] (.s (strOfNums [lb x])) := by
  unfold lb
  refine conS_of hmix hTab Tryd.func143 rfl rfl (by kernel_rfl) (by show 1 ≤ Tryd.f143.ntmps; decide) rfl ?_
  refine stp ?_; try with_reducible exact True.intro
  refine Br.mk (fun h1 => ?_) (fun h1 => ?_) <;> simp [-Int.ofNat_toNat] at h1
  · rw [if_pos h1]
    refine stp ?_; try with_reducible exact True.intro
    rw [u8i (by omega) (by omega)]
    refine congrArg (fun e : Int => V.s (strOfNums [e])) ?_
    omega
  · rw [if_neg (by omega)]
    refine stp ?_; try with_reducible exact True.intro
    rw [u8i (by omega) (by omega)]
    refine congrArg (fun e : Int => V.s (strOfNums [e])) ?_
    omega
theorem WordTextI {w : List Int} (hw : wordOk w = true) : ConS Tryd.prog 64 [.il w] (.s (wtx w)) := by
  obtain ⟨hl, hq⟩ := word_let hw
  have hi := IsWordI w (by omega)
  rw [hw] at hi
  refine conS_of hmix hTab Tryd.func64 rfl rfl (by kernel_rfl) (by show 1 ≤ Tryd.f64.ntmps; decide) rfl ?_
  refine stp ?_; try with_reducible exact True.intro
  refine useT (hi.toT) ?_; try with_reducible exact True.intro
  refine ⟨Nat, fun i => i ≤ w.length, fun i => w.length - i, fun i => [(3, .s (wtM (w.take i))), (9, .il w), (10, .i w.length), (11, .i i)], fun i => [], ⟨0, (fitK [] []), Nat.zero_le _⟩, fun i hi => ?_⟩
  dsimp only at hi ⊢
  refine stp ?_; try with_reducible exact True.intro
  refine Br.mk (fun h1 => ?_) (fun h1 => ?_) <;> simp [-Int.ofNat_toNat] at h1
  · have hx := hq _ (rd_memA h1)
    simp only [isLet, Bool.and_eq_true, decide_eq_true_eq] at hx
    have hs := wtM_succ h1
    have hz := wtM_size (w.take i)
    have hz2 : (strOfNums [lb (rd w i)]).size = 1 := rfl
    refine stp ?_; try with_reducible exact True.intro
    refine useT ((letterText (x := rd w i) hx.2).toT) ?_; try with_reducible exact True.intro
    refine ⟨by rw [hz, hz2, List.length_take]; omega, ?_⟩
    refine stp ?_; try with_reducible exact True.intro
    refine ⟨i + 1, ⟨.frz [], [], ⟨?_, rfl, rfl, rfl, trivial⟩, trivial, by decide, rfl, rfl, rfl⟩, by first | ((try dsimp only); omega) | (simp; omega), by first | ((try dsimp only); omega) | (simp; omega)⟩
    rw [hs]; rfl
  · have e : i = w.length := by omega
    subst e
    rw [List.take_length]
    unfold wtx
    refine stp ?_; try with_reducible exact True.intro
    rw [empty_eq, wtM_size]
    by_cases h0 : w = []
    · refine brT (decide_eq_true (by rw [h0]; rfl)) ?_
      refine stp ?_; try with_reducible exact True.intro
      rw [if_pos h0]
    · refine brF (decide_eq_false (fun h => h0 (List.length_eq_zero_iff.1 h))) ?_
      refine stp ?_; try with_reducible exact True.intro
      rw [if_neg h0]
theorem sub_lo (k : Nat) (h : k < 8) : (⟨#[97, 98, 99, 100, 101, 102, 103, 104]⟩ : ByteArray).extract k (k + 1) = strOfNums [97 + (k : Int)] := by
  rcases (show k = 0 ∨ k = 1 ∨ k = 2 ∨ k = 3 ∨ k = 4 ∨ k = 5 ∨ k = 6 ∨ k = 7 by omega) with rfl | rfl | rfl | rfl | rfl | rfl | rfl | rfl <;> decide +kernel
theorem sub_up (k : Nat) (h : k < 8) : (⟨#[65, 66, 67, 68, 69, 70, 71, 72]⟩ : ByteArray).extract k (k + 1) = strOfNums [65 + (k : Int)] := by
  rcases (show k = 0 ∨ k = 1 ∨ k = 2 ∨ k = 3 ∨ k = 4 ∨ k = 5 ∨ k = 6 ∨ k = 7 by omega) with rfl | rfl | rfl | rfl | rfl | rfl | rfl | rfl <;> decide +kernel
theorem l2Text {w : List Int} (hw : wordOk w = true) : ConS Tryd.prog 133 [.il w] (.s (wtM w)) := by
  obtain ⟨hl, hq⟩ := word_let hw
  refine conS_of hmix hTab Tryd.func133 rfl rfl (by kernel_rfl) (by show 1 ≤ Tryd.f133.ntmps; decide) rfl ?_
  refine stp ?_; try with_reducible exact True.intro
  refine ⟨Nat, fun i => i ≤ w.length, fun i => w.length - i, fun i => [(0, .il w), (3, .s (wtM (w.take i))), (4, .i i)], fun i => [], ⟨0, (fitK [] []), Nat.zero_le _⟩, fun i hi => ?_⟩
  dsimp only at hi ⊢
  refine stp ?_; try with_reducible exact True.intro
  refine Br.mk (fun h1 => ?_) (fun h1 => ?_) <;> simp [-Int.ofNat_toNat] at h1
  · have hx := hq _ (rd_memA h1)
    simp only [isLet, Bool.and_eq_true, decide_eq_true_eq] at hx
    have hs := wtM_succ h1
    have hz := wtM_size (w.take i)
    refine stp ?_; try with_reducible exact True.intro
    refine Br.mk (fun h2 => ?_) (fun h2 => ?_) <;> simp [-Int.ofNat_toNat] at h2
    · have hx2 : 0 < rd w i := h2
      have e : (⟨#[97, 98, 99, 100, 101, 102, 103, 104]⟩ : ByteArray).extract (rd w i - 1).toNat (rd w i).toNat = strOfNums [lb (rd w i)] := by
        have := sub_lo (rd w i - 1).toNat (by omega)
        rw [show (rd w i - 1).toNat + 1 = (rd w i).toNat by omega] at this
        rw [this]
        refine congrArg (fun e : Int => strOfNums [e]) ?_
        unfold lb
        rw [if_pos hx2]
        omega
      refine stp ?_; try with_reducible exact True.intro
      refine ⟨⟨(show 0 ≤ rd w i - 1 by omega), (show rd w i - 1 ≤ rd w i by omega), (show rd w i ≤ 8 by omega)⟩, ?_⟩
      refine stp ?_; try with_reducible exact True.intro
      refine ⟨?_, ?_⟩
      · show (wtM (w.take i)).size + ((⟨#[97, 98, 99, 100, 101, 102, 103, 104]⟩ : ByteArray).extract (rd w i - 1).toNat (rd w i).toNat).size ≤ _
        rw [e, hz, List.length_take]
        show _ + 1 ≤ _
        omega
      refine stp ?_; try with_reducible exact True.intro
      refine ⟨i + 1, ⟨.frz [], [], ⟨rfl, ?_, rfl, trivial⟩, trivial, by decide, rfl, rfl, rfl⟩, by first | ((try dsimp only); omega) | (simp; omega), by first | ((try dsimp only); omega) | (simp; omega)⟩
      rw [hs, ← e]; rfl
    · have hx2 : ¬ 0 < rd w i := by omega
      have e : (⟨#[65, 66, 67, 68, 69, 70, 71, 72]⟩ : ByteArray).extract (-(rd w i) - 1).toNat (-(rd w i)).toNat = strOfNums [lb (rd w i)] := by
        have := sub_up (-(rd w i) - 1).toNat (by omega)
        rw [show (-(rd w i) - 1).toNat + 1 = (-(rd w i)).toNat by omega] at this
        rw [this]
        refine congrArg (fun e : Int => strOfNums [e]) ?_
        unfold lb
        rw [if_neg hx2]
        omega
      refine stp ?_; try with_reducible exact True.intro
      refine ⟨⟨(show 0 ≤ -(rd w i) - 1 by omega), (show -(rd w i) - 1 ≤ -(rd w i) by omega), (show -(rd w i) ≤ 8 by omega)⟩, ?_⟩
      refine stp ?_; try with_reducible exact True.intro
      refine ⟨?_, ?_⟩
      · show (wtM (w.take i)).size + ((⟨#[65, 66, 67, 68, 69, 70, 71, 72]⟩ : ByteArray).extract (-(rd w i) - 1).toNat (-(rd w i)).toNat).size ≤ _
        rw [e, hz, List.length_take]
        show _ + 1 ≤ _
        omega
      refine stp ?_; try with_reducible exact True.intro
      refine ⟨i + 1, ⟨.frz [], [], ⟨rfl, ?_, rfl, trivial⟩, trivial, by decide, rfl, rfl, rfl⟩, by first | ((try dsimp only); omega) | (simp; omega), by first | ((try dsimp only); omega) | (simp; omega)⟩
      rw [hs, ← e]; rfl
  · have e : i = w.length := by omega
    subst e
    rw [List.take_length]
    refine stp ?_; try with_reducible exact True.intro
theorem WordTextS {w : List Int} (hw : wordOk w = true) : ConS Tryd.prog 56 [.il w] (.s (wtx w)) := by
  obtain ⟨hl, hq⟩ := word_let hw
  have hi := IsWordS w (by omega)
  rw [hw] at hi
  unfold wtx
  refine conS_of hmix hTab Tryd.func56 rfl rfl (by kernel_rfl) (by show 1 ≤ Tryd.f56.ntmps; decide) rfl ?_
  refine stp ?_; try with_reducible exact True.intro
  refine useT (hi.toT) ?_; try with_reducible exact True.intro
  refine Br.mk (fun h0 => ?_) (fun h0 => ?_) <;> simp [-Int.ofNat_toNat] at h0
  · refine stp ?_; try with_reducible exact True.intro
    rw [if_pos h0]
  · refine stp ?_; try with_reducible exact True.intro
    refine useT ((l2Text hw).toT) ?_; try with_reducible exact True.intro
    rw [if_neg h0]
end Go.Proofs.YtffiddkignmobaaDoorTv
end
section
open Go Go.Proofs.YtffiddkignmobaaDoorVe Go.Proofs.YtffiddkignmobaaDoorTv Go.Proofs
namespace Go.Proofs.YtffiddkignmobaaDoorTv
set_option maxRecDepth 8000
set_option maxHeartbeats 2000000
theorem mul_bdK {a b n m : Int} (ha : -n ≤ a ∧ a ≤ n) (hb : -m ≤ b ∧ b ≤ m) : -(n * m) ≤ a * b ∧ a * b ≤ n * m := by
  have h : (a * b).natAbs ≤ n.toNat * m.toNat := by
    rw [Int.natAbs_mul]
    exact Nat.mul_le_mul (by omega) (by omega)
  have e : ((n.toNat * m.toNat : Nat) : Int) = n * m := by
    rw [Int.natCast_mul, Int.toNat_of_nonneg (by omega), Int.toNat_of_nonneg (by omega)]
  omega
def swF (p n : Int) (neg : Bool) (k : Nat) : Int := if ((k : Int) * p).tmod n < n - p then 1 else if neg = true then -2 else 2
def swM (s : Int × Int) : List Int := (List.range (absI s.1 + s.2).toNat).map (swF (absI s.1) (absI s.1 + s.2) (decide (s.1 < 0)))
theorem range_succ {k n : Nat} {α : Type} (f : Nat → α) (_ : k < n) : (List.range (k + 1)).map f = (List.range k).map f ++ [f k] := by rw [List.range_succ, List.map_append]; rfl
theorem slp_f {p q : Int} (h : isSlp (p, q) = true) : (-1000 ≤ p ∧ p ≤ 1000) ∧ (0 ≤ q ∧ q ≤ 1000) ∧ 1 ≤ absI p + q := by
  unfold isSlp at h
  have h := of_decide_eq_true h
  dsimp only at h
  refine ⟨h.1, h.2.1, ?_⟩
  unfold absI
  omega
theorem SlopeWordI {s : Int × Int} (hs : isSlp s = true) (hl : absI s.1 + s.2 ≤ 24) : ConT Tryd.prog 146 [slV s] (.tup [.own 0 0 (swM s).length, .b true]) [.arr (.int .i64) (swM s) true] := by
  obtain ⟨p, q⟩ := s
  have w := IsSlopeI p q
  rw [hs] at w
  obtain ⟨h1, h2, h3⟩ := slp_f hs
  have w2 := sizeI p (by omega)
  have h4 : 0 ≤ absI p := by unfold absI; omega
  have hn : p < 0 ↔ p < 0 := Iff.rfl
  unfold swM
  dsimp only [slV] at hl w ⊢
  generalize absI p = a at *
  refine conT_of hmix hTab Tryd.func146 rfl rfl (by kernel_rfl) (by show 1 ≤ Tryd.f146.ntmps; decide) ?_
  refine stp ?_; try with_reducible exact True.intro
  refine useT (w2.toT) ?_; try with_reducible exact True.intro
  refine useT w.toT ?_ ⟨⟨rfl, rfl, trivial⟩, trivial⟩
  refine brF (decide_eq_false (by omega)) ?_
  refine stp ?_; try with_reducible exact True.intro
  by_cases hp : p < 0
  · refine brT (decide_eq_true hp) ?_
    rw [decide_eq_true hp]
    refine stp ?_; try with_reducible exact True.intro
    refine ⟨Nat, fun k => k ≤ (a + q).toNat, fun k => (a + q).toNat - k, fun k => [(4, .i a), (5, .i (a + q)), (6, .i (-2)), (7, .own 0 0 k), (30, .i (a + q)), (31, .i k)], fun k => [.arr (.int .i64) ((List.range k).map (swF a (a + q) true)) true], ⟨0, (fitK [] [1]), Nat.zero_le _⟩, fun k hk => ?_⟩
    dsimp only at hk ⊢
    have m1 := mul_bdK (a := (k : Int)) (b := a) (n := 24) (m := 24) (by omega) (by omega)
    refine stp ?_; try with_reducible exact True.intro
    refine Br.mk (fun h6 => ?_) (fun h6 => ?_) <;> simp [-Int.ofNat_toNat] at h6
    · have hsu := range_succ (n := (a + q).toNat) (swF a (a + q) true) (show k < (a + q).toNat by omega)
      refine stp ?_; try with_reducible exact True.intro
      by_cases h7 : ((k : Int) * a).tmod (a + q) < a + q - a
      · refine brF (decide_eq_false (by omega)) ?_
        refine stp ?_; try with_reducible exact True.intro
        refine ⟨k + 1, ⟨.frz [], [2], ⟨rfl, rfl, rfl, rfl, rfl, rfl, trivial⟩, ⟨?_, trivial⟩, by decide, rfl, rfl, rfl⟩, by omega, by omega⟩
        rw [hsu]
        refine congrArg (fun x => some (Obj.arr (.int .i64) x true)) ?_
        rw [show swF a (a + q) true k = 1 by unfold swF; rw [if_pos h7]]
        simp
        exact List.take_of_length_le (by simp)
      · refine brT (decide_eq_true (by omega)) ?_
        refine stp ?_; try with_reducible exact True.intro
        refine ⟨k + 1, ⟨.frz [], [2], ⟨rfl, rfl, rfl, rfl, rfl, rfl, trivial⟩, ⟨?_, trivial⟩, by decide, rfl, rfl, rfl⟩, by omega, by omega⟩
        rw [hsu]
        refine congrArg (fun x => some (Obj.arr (.int .i64) x true)) ?_
        rw [show swF a (a + q) true k = -2 by unfold swF; rw [if_neg h7]; rfl]
        simp
        exact List.take_of_length_le (by simp)
    · obtain rfl : k = (a + q).toNat := by omega
      refine stp ?_; try with_reducible exact True.intro
      exact (fitK [] [0])
  · refine brF (decide_eq_false hp) ?_
    rw [decide_eq_false hp]
    refine stp ?_; try with_reducible exact True.intro
    refine ⟨Nat, fun k => k ≤ (a + q).toNat, fun k => (a + q).toNat - k, fun k => [(4, .i a), (5, .i (a + q)), (6, .i (2)), (7, .own 0 0 k), (30, .i (a + q)), (31, .i k)], fun k => [.arr (.int .i64) ((List.range k).map (swF a (a + q) false)) true], ⟨0, (fitK [] [1]), Nat.zero_le _⟩, fun k hk => ?_⟩
    dsimp only at hk ⊢
    have m1 := mul_bdK (a := (k : Int)) (b := a) (n := 24) (m := 24) (by omega) (by omega)
    refine stp ?_; try with_reducible exact True.intro
    refine Br.mk (fun h6 => ?_) (fun h6 => ?_) <;> simp [-Int.ofNat_toNat] at h6
    · have hsu := range_succ (n := (a + q).toNat) (swF a (a + q) false) (show k < (a + q).toNat by omega)
      refine stp ?_; try with_reducible exact True.intro
      by_cases h7 : ((k : Int) * a).tmod (a + q) < a + q - a
      · refine brF (decide_eq_false (by omega)) ?_
        refine stp ?_; try with_reducible exact True.intro
        refine ⟨k + 1, ⟨.frz [], [2], ⟨rfl, rfl, rfl, rfl, rfl, rfl, trivial⟩, ⟨?_, trivial⟩, by decide, rfl, rfl, rfl⟩, by omega, by omega⟩
        rw [hsu]
        refine congrArg (fun x => some (Obj.arr (.int .i64) x true)) ?_
        rw [show swF a (a + q) false k = 1 by unfold swF; rw [if_pos h7]]
        simp
        exact List.take_of_length_le (by simp)
      · refine brT (decide_eq_true (by omega)) ?_
        refine stp ?_; try with_reducible exact True.intro
        refine ⟨k + 1, ⟨.frz [], [2], ⟨rfl, rfl, rfl, rfl, rfl, rfl, trivial⟩, ⟨?_, trivial⟩, by decide, rfl, rfl, rfl⟩, by omega, by omega⟩
        rw [hsu]
        refine congrArg (fun x => some (Obj.arr (.int .i64) x true)) ?_
        rw [show swF a (a + q) false k = 2 by unfold swF; rw [if_neg h7]; rfl]
        simp
        exact List.take_of_length_le (by simp)
    · obtain rfl : k = (a + q).toNat := by omega
      refine stp ?_; try with_reducible exact True.intro
      exact (fitK [] [0])
theorem SlopeWordS {s : Int × Int} (hs : isSlp s = true) (hl : absI s.1 + s.2 ≤ 24) : ConT Tryd.prog 135 [slV s] (.tup [.own 0 0 (swM s).length, .b true]) [.arr (.int .i64) (swM s) true] := by
  obtain ⟨p, q⟩ := s
  have w := IsSlopeS p q
  rw [hs] at w
  obtain ⟨h1, h2, h3⟩ := slp_f hs
  have w2 := l3Abs p (by omega)
  have h4 : 0 ≤ absI p := by unfold absI; omega
  unfold swM
  dsimp only [slV] at hl w ⊢
  generalize absI p = a at *
  refine conT_of hmix hTab Tryd.func135 rfl rfl (by kernel_rfl) (by show 1 ≤ Tryd.f135.ntmps; decide) ?_
  refine stp ?_; try with_reducible exact True.intro
  refine useT w.toT ?_ ⟨⟨rfl, rfl, trivial⟩, trivial⟩
  refine stp ?_; try with_reducible exact True.intro
  refine .inl ⟨_, _, w2, by repeat (first | exact trivial | refine ⟨by first | exact rfl | exact trivial | exact ⟨_, rfl, rfl⟩ | exact ⟨_, _, rfl, by first | (simp; done) | (simp; omega), by first | (simp; done) | (simp [List.take_of_length_le]; done) | (rw [List.drop_zero]; exact List.take_of_length_le (by first | omega | (simp; omega))) | (simp [List.take_of_length_le]; omega)⟩ | exact ⟨_, rfl, by first | (simp; done) | (simp; omega), by first | (simp; done) | (simp [List.take_of_length_le]; done) | (rw [List.drop_zero]; exact List.take_of_length_le (by first | omega | (simp; omega))) | (simp [List.take_of_length_le]; omega)⟩, ?_⟩), ?_⟩; refine stp ?_; try with_reducible exact True.intro
  refine brF (decide_eq_false (by omega)) ?_
  refine stp ?_; try with_reducible exact True.intro
  refine useT (w2.toT) ?_; try with_reducible exact True.intro
  by_cases hp : p < 0
  · rw [decide_eq_true hp]
    refine ⟨Nat, fun k => k ≤ (a + q).toNat, fun k => (a + q).toNat - k, fun k => [(1, .pcell 0 0), (4, .i a), (5, .i (a + q)), (6, .own 1 0 k), (7, .i k)], fun k => [.vars [.i p, .i q], .arr (.int .i64) ((List.range k).map (swF a (a + q) true)) true], ⟨0, (fitK [] [0, 1]), Nat.zero_le _⟩, fun k hk => ?_⟩
    dsimp only at hk ⊢
    have m1 := mul_bdK (a := (k : Int)) (b := a) (n := 24) (m := 24) (by omega) (by omega)
    refine stp ?_; try with_reducible exact True.intro
    refine Br.mk (fun h6 => ?_) (fun h6 => ?_) <;> simp [-Int.ofNat_toNat] at h6
    · have hsu := range_succ (n := (a + q).toNat) (swF a (a + q) true) (show k < (a + q).toNat by omega)
      refine stp ?_; try with_reducible exact True.intro
      by_cases h7 : ((k : Int) * a).tmod (a + q) < a + q - a
      · refine brT (decide_eq_true (by omega)) ?_
        refine stp ?_; try with_reducible exact True.intro
        refine ⟨k + 1, ⟨.frz [], [0, 3], ⟨rfl, rfl, rfl, rfl, rfl, trivial⟩, ⟨rfl, ?_, trivial⟩, by decide, rfl, rfl, rfl⟩, by omega, by omega⟩
        rw [hsu]
        refine congrArg (fun x => some (Obj.arr (.int .i64) x true)) ?_
        rw [show swF a (a + q) true k = 1 by unfold swF; rw [if_pos h7]]
        simp
        exact List.take_of_length_le (by simp)
      · refine brF (decide_eq_false (by omega)) ?_
        refine stp ?_; try with_reducible exact True.intro
        refine brT (decide_eq_true hp) ?_
        refine stp ?_; try with_reducible exact True.intro
        refine ⟨k + 1, ⟨.frz [], [0, 3], ⟨rfl, rfl, rfl, rfl, rfl, trivial⟩, ⟨rfl, ?_, trivial⟩, by decide, rfl, rfl, rfl⟩, by omega, by omega⟩
        rw [hsu]
        refine congrArg (fun x => some (Obj.arr (.int .i64) x true)) ?_
        rw [show swF a (a + q) true k = -2 by unfold swF; rw [if_neg h7]; rfl]
        simp
        exact List.take_of_length_le (by simp)
    · obtain rfl : k = (a + q).toNat := by omega
      refine stp ?_; try with_reducible exact True.intro
      exact (fitK [] [1])
  · rw [decide_eq_false hp]
    refine ⟨Nat, fun k => k ≤ (a + q).toNat, fun k => (a + q).toNat - k, fun k => [(1, .pcell 0 0), (4, .i a), (5, .i (a + q)), (6, .own 1 0 k), (7, .i k)], fun k => [.vars [.i p, .i q], .arr (.int .i64) ((List.range k).map (swF a (a + q) false)) true], ⟨0, (fitK [] [0, 1]), Nat.zero_le _⟩, fun k hk => ?_⟩
    dsimp only at hk ⊢
    have m1 := mul_bdK (a := (k : Int)) (b := a) (n := 24) (m := 24) (by omega) (by omega)
    refine stp ?_; try with_reducible exact True.intro
    refine Br.mk (fun h6 => ?_) (fun h6 => ?_) <;> simp [-Int.ofNat_toNat] at h6
    · have hsu := range_succ (n := (a + q).toNat) (swF a (a + q) false) (show k < (a + q).toNat by omega)
      refine stp ?_; try with_reducible exact True.intro
      by_cases h7 : ((k : Int) * a).tmod (a + q) < a + q - a
      · refine brT (decide_eq_true (by omega)) ?_
        refine stp ?_; try with_reducible exact True.intro
        refine ⟨k + 1, ⟨.frz [], [0, 3], ⟨rfl, rfl, rfl, rfl, rfl, trivial⟩, ⟨rfl, ?_, trivial⟩, by decide, rfl, rfl, rfl⟩, by omega, by omega⟩
        rw [hsu]
        refine congrArg (fun x => some (Obj.arr (.int .i64) x true)) ?_
        rw [show swF a (a + q) false k = 1 by unfold swF; rw [if_pos h7]]
        simp
        exact List.take_of_length_le (by simp)
      · refine brF (decide_eq_false (by omega)) ?_
        refine stp ?_; try with_reducible exact True.intro
        refine brF (decide_eq_false hp) ?_
        refine stp ?_; try with_reducible exact True.intro
        refine ⟨k + 1, ⟨.frz [], [0, 3], ⟨rfl, rfl, rfl, rfl, rfl, trivial⟩, ⟨rfl, ?_, trivial⟩, by decide, rfl, rfl, rfl⟩, by omega, by omega⟩
        rw [hsu]
        refine congrArg (fun x => some (Obj.arr (.int .i64) x true)) ?_
        rw [show swF a (a + q) false k = 2 by unfold swF; rw [if_neg h7]; rfl]
        simp
        exact List.take_of_length_le (by simp)
    · obtain rfl : k = (a + q).toNat := by omega
      refine stp ?_; try with_reducible exact True.intro
      exact (fitK [] [1])
end Go.Proofs.YtffiddkignmobaaDoorTv
end
section
open Go Go.Proofs.YtffiddkignmobaaDoorVe Go.Proofs.YtffiddkignmobaaDoorTv Go.Proofs
namespace Go.Proofs.YtffiddkignmobaaDoorTv
set_option maxRecDepth 8000
set_option maxHeartbeats 2000000
theorem cv_word {w : List Int} (h : cvOk w = true) : wordOk w = true := by
  unfold cvOk at h
  simp only [Bool.and_eq_true] at h
  exact h.2
theorem lsM_two (w : List Int) (hq : ∀ x ∈ w, isLet x = true) : ∀ n, n ≤ w.length → absI (rd (lsM (w.take n)) 0) + absI (rd (lsM (w.take n)) 1) ≤ n := by
  intro n
  induction n with
  | zero =>
    intro _
    have e : ∀ i, rd (lsM (w.take 0)) i = 0 := fun i => by
      show rd (List.replicate 8 0) i = 0
      unfold rd
      simp only [List.getD, List.getElem?_replicate]
      split <;> rfl
    rw [e, e]; decide
  | succ n ih =>
    intro hn
    rw [lsM_succ (by omega)]
    have hx := hq _ (rd_memA (l := w) (j := n) (by omega))
    simp only [isLet, Bool.and_eq_true, decide_eq_true_eq] at hx
    have h0 := ih (by omega)
    have hl := lsM_len (w.take n)
    generalize rd w n = x at *
    generalize lsM (w.take n) = c at *
    unfold absI at *
    unfold lsB
    split
    · rw [rd_set _ _ _ _ (by omega), rd_set _ _ _ _ (by omega)]
      by_cases e0 : (0 : Int).toNat = (x - 1).toNat
      · rw [if_pos e0, if_neg (by omega), show x - 1 = 0 by omega]; omega
      · rw [if_neg e0]
        by_cases e1 : (1 : Int).toNat = (x - 1).toNat
        · rw [if_pos e1, show x - 1 = 1 by omega]; omega
        · rw [if_neg e1]; omega
    · rw [rd_set _ _ _ _ (by omega), rd_set _ _ _ _ (by omega)]
      by_cases e0 : (0 : Int).toNat = (-x - 1).toNat
      · rw [if_pos e0, if_neg (by omega), show -x - 1 = 0 by omega]; omega
      · rw [if_neg e0]
        by_cases e1 : (1 : Int).toNat = (-x - 1).toNat
        · rw [if_pos e1, show -x - 1 = 1 by omega]; omega
        · rw [if_neg e1]; omega
theorem slO_s {p q : Int} (h : (-1000 ≤ p ∧ p ≤ 1000) ∧ (-1000 ≤ q ∧ q ≤ 1000) ∧ ¬(p = 0 ∧ q = 0)) : slO p q = (slo p q, true) := by unfold slO; rw [if_pos h]
theorem slO_z : slO 0 0 = ((0, 0), false) := by unfold slO; rw [if_neg (by simp)]
theorem slo_ok {p q : Int} (hp : -1000 ≤ p ∧ p ≤ 1000) (hq : -1000 ≤ q ∧ q ≤ 1000) (hz : ¬(p = 0 ∧ q = 0)) : isSlp (slo p q) = true ∧ absI (slo p q).1 ≤ absI p ∧ (slo p q).2 ≤ absI q := by
  have h0 : 0 < gc p q := (gc_f hp hq hz).pos
  obtain ⟨a, ha⟩ : gc p q ∣ p := Int.gcd_dvd_left ..
  obtain ⟨b, hb⟩ : gc p q ∣ q := Int.gcd_dvd_right ..
  have hg : gc a b = 1 := by
    have hh : ∀ d : Int, 0 < d → p = d * a → q = d * b → gc p q = d * gc a b := fun d hd h1 h2 => by
      unfold gc
      rw [h1, h2, Int.gcd_mul_left, Int.natCast_mul, Int.natAbs_of_nonneg (by omega)]
    have e : gc p q = gc p q * gc a b := hh _ h0 ha hb
    have : gc p q * 1 = gc p q * gc a b := by rw [Int.mul_one]; exact e
    exact (Int.eq_of_mul_eq_mul_left (by omega) this).symm
  generalize hd : gc p q = d at *
  have s : ∀ x : Int, (x < 0 ↔ d * x < 0) ∧ (x = 0 ↔ d * x = 0) ∧ (x.natAbs ≤ (d * x).natAbs) := fun x => by
    refine ⟨⟨fun h => Int.mul_neg_of_pos_of_neg h0 h, fun h => ?_⟩, ⟨fun h => by rw [h, Int.mul_zero], fun h => ?_⟩, ?_⟩
    · by_cases h1 : x < 0
      · exact h1
      · have := Int.mul_nonneg (Int.le_of_lt h0) (show 0 ≤ x by omega)
        omega
    · rcases Int.mul_eq_zero.1 h with h1 | h1 <;> omega
    · rw [Int.natAbs_mul]
      exact Nat.le_mul_of_pos_left _ (by omega)
  have sa := s a
  have sb := s b
  rw [← ha] at sa
  rw [← hb] at sb
  have e1 : p.tdiv d = a := by rw [ha]; exact Int.mul_tdiv_cancel_left _ (by omega)
  have e2 : q.tdiv d = b := by rw [hb]; exact Int.mul_tdiv_cancel_left _ (by omega)
  have key : slo p q = if q < 0 ∨ (q = 0 ∧ p < 0) then (-a, -b) else (a, b) := by unfold slo; rw [hd, e1, e2]
  have hgn : gc (-a) (-b) = gc a b := by unfold gc; rw [Int.neg_gcd, Int.gcd_neg]
  have g0 : b = 0 → a = 1 ∨ a = -1 := fun h => by
    subst h
    unfold gc at hg
    rw [Int.gcd_zero_right] at hg
    omega
  have a1 : absI p = (p.natAbs : Int) := by unfold absI; omega
  have a2 : absI q = (q.natAbs : Int) := by unfold absI; omega
  rw [key]
  unfold isSlp absI
  split
  · dsimp only
    refine ⟨decide_eq_true ⟨by omega, by omega, by omega, hgn.trans hg⟩, by omega, by omega⟩
  · dsimp only
    refine ⟨decide_eq_true ⟨by omega, by omega, by omega, hg⟩, by omega, by omega⟩
def wsM (w : List Int) : (Int × Int) × Bool := if cvOk w = true then slO (rd (lsM w) 1) (rd (lsM w) 0) else ((0, 0), false)
theorem ws_facts {w : List Int} (h : (wsM w).2 = true) : cvOk w = true ∧ isSlp (wsM w).1 = true ∧ absI (wsM w).1.1 + (wsM w).1.2 ≤ 24 ∧ ¬ (rd (lsM w) 1 = 0 ∧ rd (lsM w) 0 = 0) ∧ (wsM w).1 = slo (rd (lsM w) 1) (rd (lsM w) 0) := by
  unfold wsM at *
  by_cases hc : cvOk w = true
  · rw [if_pos hc] at h ⊢
    obtain ⟨hl, hq⟩ := word_let (cv_word hc)
    have h2 := lsM_two w hq w.length (Nat.le_refl _)
    rw [List.take_length] at h2
    have b : ∀ x, absI x = (x.natAbs : Int) := fun x => by unfold absI; omega
    rw [b, b] at h2
    have hz : ¬ (rd (lsM w) 1 = 0 ∧ rd (lsM w) 0 = 0) := fun hz => by
      rw [hz.1, hz.2, slO_z] at h
      cases h
    have hs := slO_s (p := rd (lsM w) 1) (q := rd (lsM w) 0) ⟨by omega, by omega, hz⟩
    rw [hs]
    obtain ⟨k1, k2, k3⟩ := slo_ok (p := rd (lsM w) 1) (q := rd (lsM w) 0) (by omega) (by omega) hz
    simp only [b] at k2 k3
    exact ⟨hc, k1, by dsimp only; rw [b]; omega, hz, rfl⟩
  · rw [if_neg hc] at h
    cases h
theorem WordSlopeI (w : List Int) (hw : (w.length : Int) ≤ 274877906944) : ConS Tryd.prog 145 [.il w] (slOV (wsM w)) := by
  have hi := isCurve w hw
  have hs := @LetterSumsI w
  have hso := SlopeOfI (rd (lsM w) 1) (rd (lsM w) 0)
  have hlen := lsM_len w
  unfold wsM
  refine conS_of hmix hTab Tryd.func145 rfl rfl (by kernel_rfl) (by show 1 ≤ Tryd.f145.ntmps; decide) rfl ?_
  cases hc : cvOk w with
  | false =>
    rw [hc] at hi
    refine stp ?_; try with_reducible exact True.intro
    refine useT (hi.toT) ?_; try with_reducible exact True.intro
    rfl
  | true =>
    rw [hc] at hi
    have hs := hs (cv_word hc)
    rw [if_pos rfl]
    generalize slO (rd (lsM w) 1) (rd (lsM w) 0) = r at *
    generalize lsM w = c at *
    refine stp ?_; try with_reducible exact True.intro
    refine useT (hi.toT) ?_; try with_reducible exact True.intro
    refine useT (hs) ?_; try with_reducible exact True.intro
    refine useT (hso.toT) ?_; try with_reducible exact True.intro
    rfl
theorem WordSlopeS (w : List Int) (hw : (w.length : Int) ≤ 274877906944) : ConS Tryd.prog 134 [.il w] (slOV (wsM w)) := by
  have hi := l20Fits w hw
  have hs := @LetterSumsS w
  have hso := SlopeOfS (rd (lsM w) 1) (rd (lsM w) 0)
  have hlen := lsM_len w
  unfold wsM
  refine conS_of hmix hTab Tryd.func134 rfl rfl (by kernel_rfl) (by show 1 ≤ Tryd.f134.ntmps; decide) rfl ?_
  cases hc : cvOk w with
  | false =>
    rw [hc] at hi
    refine stp ?_; try with_reducible exact True.intro
    refine useT (hi.toT) ?_; try with_reducible exact True.intro
    rfl
  | true =>
    rw [hc] at hi
    have hs := hs (cv_word hc)
    rw [if_pos rfl]
    generalize slO (rd (lsM w) 1) (rd (lsM w) 0) = r at *
    generalize lsM w = c at *
    refine stp ?_; try with_reducible exact True.intro
    refine useT (hi.toT) ?_; try with_reducible exact True.intro
    refine useT (hs) ?_; try with_reducible exact True.intro
    refine .inl ⟨_, _, hso, by repeat (first | exact trivial | refine ⟨by first | exact rfl | exact trivial | exact ⟨_, rfl, rfl⟩ | exact ⟨_, _, rfl, by first | (simp; done) | (simp; omega), by first | (simp; done) | (simp [List.take_of_length_le]; done) | (rw [List.drop_zero]; exact List.take_of_length_le (by first | omega | (simp; omega))) | (simp [List.take_of_length_le]; omega)⟩ | exact ⟨_, rfl, by first | (simp; done) | (simp; omega), by first | (simp; done) | (simp [List.take_of_length_le]; done) | (rw [List.drop_zero]; exact List.take_of_length_le (by first | omega | (simp; omega))) | (simp [List.take_of_length_le]; omega)⟩, ?_⟩), ?_⟩; refine stp ?_; try with_reducible exact True.intro
    rfl
theorem swM_len {s : Int × Int} (hs : isSlp s = true) (hl : absI s.1 + s.2 ≤ 24) : (swM s).length ≤ 24 ∧ ∀ x ∈ swM s, (x = 1 ∨ x = 2 ∨ x = -2) := by
  unfold swM
  refine ⟨by simp; omega, fun x hx => ?_⟩
  obtain ⟨k, _, rfl⟩ := List.mem_map.1 hx
  unfold swF
  split
  · exact .inl rfl
  · split
    · exact .inr (.inr rfl)
    · exact .inr (.inl rfl)
def likeM (w o : List Int) : Bool := conjM w o || conjM (Fg.inv w) o
def simM (w : List Int) : Bool := (wsM w).2 && likeM w (swM (wsM w).1)
theorem invP_inv (w : List Int) : invP w 0 = Fg.inv w := by unfold invP Fg.inv; rw [List.drop_zero]
theorem inv_len (w : List Int) : (Fg.inv w).length = w.length := by unfold Fg.inv; simp
theorem isLike {w o : List Int} (hw : cvOk w = true) (ho : (o.length : Int) ≤ 1000) : ConS Tryd.prog 147 [.il w, .il o] (.b (likeM w o)) := by
  obtain ⟨hl, hq⟩ := cv_q hw
  have h1 := AreConjugateI w o (by omega) (by omega)
  have h2 := inverseI w (by omega) (fun x hx => by have := (hq x hx).1; omega)
  have h3 := AreConjugateI (Fg.inv w) o (by rw [inv_len]; omega) (by omega)
  rw [invP_inv] at h2
  unfold likeM
  refine conS_of hmix hTab Tryd.func147 rfl rfl (by kernel_rfl) (by show 2 ≤ Tryd.f147.ntmps; decide) rfl ?_
  refine stp ?_; try with_reducible exact True.intro
  refine useT (h1.toT) ?_; try with_reducible exact True.intro
  cases conjM w o with
  | true =>
    refine stp ?_; try with_reducible exact True.intro
    rfl
  | false =>
    refine stp ?_; try with_reducible exact True.intro
    refine useT (h2) ?_; try with_reducible exact True.intro
    refine useT (h3.toT) ?_; try with_reducible exact True.intro
    rfl
theorem IsSimpleWordI (w : List Int) (hw : (w.length : Int) ≤ 274877906944) : ConS Tryd.prog 69 [.il w] (.b (simM w)) := by
  have h1 := WordSlopeI w hw
  have hf := @ws_facts w
  have h2 := @SlopeWordI (wsM w).1
  unfold simM
  generalize wsM w = r at *
  obtain ⟨⟨p, q⟩, b⟩ := r
  dsimp only [slOV, slV] at *
  refine conS_of hmix hTab Tryd.func69 rfl rfl (by kernel_rfl) (by show 1 ≤ Tryd.f69.ntmps; decide) rfl ?_
  cases b with
  | false =>
    refine stp ?_; try with_reducible exact True.intro
    refine useT (h1.toT) ?_; try with_reducible exact True.intro
    rfl
  | true =>
    obtain ⟨hc, hs, hl, _, _⟩ := hf rfl
    have h2 := h2 hs hl
    have hsl := (swM_len hs hl).1
    have h3 := isLike (w := w) (o := swM (p, q)) hc (by omega)
    generalize swM (p, q) = o at *
    refine stp ?_; try with_reducible exact True.intro
    refine useT (h1.toT) ?_; try with_reducible exact True.intro
    refine useT h2 ?_ ⟨⟨rfl, rfl, trivial⟩, trivial⟩
    refine stp ?_; try with_reducible exact True.intro
    refine useT (h3.toT) ?_; try with_reducible exact True.intro
    rfl
theorem IsSimpleWordS (w : List Int) (hw : (w.length : Int) ≤ 274877906944) : ConS Tryd.prog 61 [.il w] (.b (simM w)) := by
  have h1 := WordSlopeS w hw
  have hf := @ws_facts w
  have h2 := @SlopeWordS (wsM w).1
  unfold simM
  generalize wsM w = r at *
  obtain ⟨⟨p, q⟩, b⟩ := r
  dsimp only [slOV, slV] at *
  refine conS_of hmix hTab Tryd.func61 rfl rfl (by kernel_rfl) (by show 1 ≤ Tryd.f61.ntmps; decide) rfl ?_
  cases b with
  | false =>
    refine stp ?_; try with_reducible exact True.intro
    refine useT (h1.toT) ?_; try with_reducible exact True.intro
    rfl
  | true =>
    obtain ⟨hc, hs, hl, _, _⟩ := hf rfl
    have h2 := h2 hs hl
    have hsl := (swM_len hs hl).1
    obtain ⟨wl, wq⟩ := cv_q hc
    generalize swM (p, q) = o at *
    have h3 := AreConjugateS o w (by omega) (by omega)
    have h4 := inverseS w (by omega) (fun x hx => by have := (wq x hx).1; omega)
    have h5 := AreConjugateS o (Fg.inv w) (by omega) (by rw [inv_len]; omega)
    rw [invP_inv] at h4
    unfold likeM
    rw [conjM_comm w o, conjM_comm (Fg.inv w) o]
    refine stp ?_; try with_reducible exact True.intro
    refine useT (h1.toT) ?_; try with_reducible exact True.intro
    refine useT h2 ?_ ⟨⟨rfl, rfl, trivial⟩, trivial⟩
    refine stp ?_; try with_reducible exact True.intro
    refine useT (h3.toT) ?_; try with_reducible exact True.intro
    cases conjM o w with
    | true =>
      refine stp ?_; try with_reducible exact True.intro
      rfl
    | false =>
      refine stp ?_; try with_reducible exact True.intro
      refine useT (h4) ?_; try with_reducible exact True.intro
      refine useT (h5.toT) ?_; try with_reducible exact True.intro
      rfl
end Go.Proofs.YtffiddkignmobaaDoorTv
end
section
open Go Go.Proofs.YtffiddkignmobaaDoorVe Go.Proofs.YtffiddkignmobaaDoorTv Go.Proofs
namespace Go.Proofs.YtffiddkignmobaaDoorTv
set_option maxRecDepth 8000
set_option maxHeartbeats 2000000
def perF (c : List Int) : Nat → Nat → Nat
  | 0, k => k
  | f + 1, k => if c.length % k = 0 ∧ rotL c k = c then k else perF c f (k + 1)
def prN (c : List Int) : Nat := perF c c.length 1
theorem rot_all (c : List Int) : rotL c c.length = c := by unfold rotL; simp
theorem per_ok (c : List Int) : ∀ f k, 1 ≤ k → k + f = c.length + 1 → 0 < f → 1 ≤ perF c f k ∧ perF c f k ≤ c.length ∧ c.length % perF c f k = 0 ∧ rotL c (perF c f k) = c
  | 0, k, _, _, h => absurd h (by omega)
  | f + 1, k, h1, h2, _ => by
    rw [perF]
    split
    · rename_i h
      exact ⟨h1, by omega, h.1, h.2⟩
    · rename_i h
      by_cases hf : f = 0
      · subst hf
        exact absurd ⟨by rw [show k = c.length by omega, Nat.mod_self], by rw [show k = c.length by omega, rot_all]⟩ h
      · exact per_ok c f (k + 1) (by omega) (by omega) (by omega)
theorem prN_ok {c : List Int} (h : c ≠ []) : 1 ≤ prN c ∧ prN c ≤ c.length ∧ c.length % prN c = 0 ∧ rotL c (prN c) = c :=
  per_ok c c.length 1 (Nat.le_refl _) (by omega) (List.length_pos_iff.2 h)
theorem turnS' {w : List Int} {k : Nat} (hw : (w.length : Int) ≤ 1000) (h0 : 0 < w.length) (hk : k ≤ w.length) : ConT Tryd.prog 132 [.il w, .i k] (.own 0 0 (rotL w k).length) [.arr (.int .i64) (rotL w k) true] := by
  rcases Nat.lt_or_ge k w.length with h | h
  · exact turnS hw (.inl h)
  · obtain rfl : k = w.length := by omega
    have e : (w.length : Int).tmod w.length = 0 := Int.tmod_self
    refine conT_of hmix hTab Tryd.func132 rfl rfl (by kernel_rfl) (by show 2 ≤ Tryd.f132.ntmps; decide) ?_
    refine stp ?_; try with_reducible exact True.intro
    refine brF (decide_eq_false (by omega)) ?_
    refine stp ?_; try with_reducible exact True.intro
    rw [e]
    refine stp ?_; try with_reducible exact True.intro
    have e1 : (w.drop (Int.toNat 0)).take ((w.length : Int) - 0).toNat = w := by simp
    refine ⟨.frz [], [2], ⟨?_, trivial⟩, ⟨?_, trivial⟩, by decide, rfl, rfl, rfl⟩
    · show V.own 2 0 _ = V.own 2 0 _
      rw [e1, rot_all]
      congr 1
      simp
    · show some (Obj.arr _ _ _) = some (Obj.arr _ _ _)
      rw [rot_all]
      simp only [e1]
      simp
theorem PowerOfI {w : List Int} (hw : wordOk w = true) (h0 : Fg.core w ≠ []) : ConT Tryd.prog 63 [.il w] (.tup [.own 0 0 (prN (Fg.core w)), .i ((Fg.core w).length / prN (Fg.core w) : Nat)]) [.arr (.int .i64) ((Fg.core w).take (prN (Fg.core w))) true] := by
  have hc := CoreWordI hw
  have hl := (core_len hw).1
  obtain ⟨n1, n2, n3, n4⟩ := prN_ok h0
  have hN : perF (Fg.core w) (Fg.core w).length 1 = prN (Fg.core w) := rfl
  generalize Fg.core w = c at *
  generalize prN c = N at *
  have hp := List.length_pos_iff.2 h0
  refine conT_of hmix hTab Tryd.func63 rfl rfl (by kernel_rfl) (by show 1 ≤ Tryd.f63.ntmps; decide) ?_
  refine stp ?_; try with_reducible exact True.intro
  refine useT (hc) ?_; try with_reducible exact True.intro
  refine brF (decide_eq_false (by omega)) ?_
  refine stp ?_; try with_reducible exact True.intro
  refine ⟨Nat, fun k => 1 ≤ k ∧ k ≤ c.length ∧ perF c (c.length + 1 - k) k = N, fun k => c.length - k, fun k => [(4, .own 0 0 c.length), (5, .i c.length), (6, .i k)], fun k => [.arr (.int .i64) c true], ⟨1, (fitK [] [0]), by omega, by omega, hN⟩, fun k ⟨k1, k2, k3⟩ => ?_⟩
  dsimp only at k1 k2 k3 ⊢
  refine stp ?_; try with_reducible exact True.intro
  refine Br.mk (fun h1 => ?_) (fun h1 => ?_) <;> simp [-Int.ofNat_toNat] at h1
  · have k4 : c.length + 1 - k = (c.length - k) + 1 := by omega
    rw [k4, perF] at k3
    have ed : ((c.length : Int).tdiv (k : Int)) = ((c.length / k : Nat) : Int) := rfl
    have ed2 : c.length / k ≤ c.length := Nat.div_le_self _ _
    have em : ((c.length : Int).tmod (k : Int)) = ((c.length % k : Nat) : Int) := rfl
    refine stp ?_; try with_reducible exact True.intro
    by_cases h2 : c.length % k = 0
    · refine brT (decide_eq_true (by omega)) ?_
      refine stp ?_; try with_reducible exact True.intro
      refine useT ((turnI (w := c) (k := k) (by omega) (.inl (by omega)))) ?_; try with_reducible exact True.intro
      refine useT ((sameI (rotL c k) c (by rw [rotL_len]; omega)).toT) ?_; try with_reducible exact True.intro
      by_cases h3 : rotL c k = c
      · rw [if_pos ⟨h2, h3⟩] at k3
        rw [decide_eq_true h3]
        subst k3
        refine stp ?_; try with_reducible exact True.intro
        refine .inr ⟨_, _, _, copyOfW (c.take k) (by simp; omega), by repeat (first | exact trivial | refine ⟨by first | exact rfl | exact trivial | exact ⟨_, rfl, rfl⟩ | exact ⟨_, _, rfl, by first | (simp; done) | (simp; omega), by first | (simp; done) | (simp [List.take_of_length_le]; done) | (rw [List.drop_zero]; exact List.take_of_length_le (by first | omega | (simp; omega))) | (simp [List.take_of_length_le]; omega)⟩ | exact ⟨_, rfl, by first | (simp; done) | (simp; omega), by first | (simp; done) | (simp [List.take_of_length_le]; done) | (rw [List.drop_zero]; exact List.take_of_length_le (by first | omega | (simp; omega))) | (simp [List.take_of_length_le]; omega)⟩, ?_⟩), rfl, rfl, by first | exact ⟨rfl, trivial⟩ | decide | (simp [okOs, okO]; done) | (simp [okOs, okO, okWs, okW, most]; done) | (simp [okOs, okO, okWs, okW, most]; omega), ?_⟩; refine stp ?_; try with_reducible exact True.intro
        refine OrW.fit (by rw [ed]; generalize c.length / k = z at *; omega) ?_
        refine stp ?_; try with_reducible exact True.intro
        refine ⟨.frz [], [2], ⟨?_, trivial⟩, ⟨rfl, trivial⟩, by decide, rfl, rfl, rfl⟩
        show V.tup [V.own 2 0 _, _] = V.tup [V.own 2 0 _, _]
        rw [List.length_take, Nat.min_eq_left n2]
        rfl
      · rw [if_neg (fun h => h3 h.2)] at k3
        rw [decide_eq_false h3]
        refine stp ?_; try with_reducible exact True.intro
        refine ⟨k + 1, (fitK [] [0]), ⟨by omega, by omega, by rw [show c.length + 1 - (k + 1) = c.length - k by omega]; exact k3⟩, by omega⟩
    · rw [if_neg (fun h => h2 h.1)] at k3
      refine brF (decide_eq_false (by omega)) ?_
      refine stp ?_; try with_reducible exact True.intro
      refine ⟨k + 1, (fitK [] [0]), ⟨by omega, by omega, by rw [show c.length + 1 - (k + 1) = c.length - k by omega]; exact k3⟩, by omega⟩
  · obtain rfl : k = c.length := by omega
    rw [show c.length + 1 - c.length = 0 + 1 by omega, perF, if_pos ⟨Nat.mod_self _, rot_all c⟩] at k3
    subst k3
    rw [List.take_length, Nat.div_self hp]
    refine stp ?_; try with_reducible exact True.intro
    exact (fitK [] [0])
theorem PowerOfS {w : List Int} (hw : wordOk w = true) (h0 : Fg.core w ≠ []) : ConT Tryd.prog 55 [.il w] (.tup [.own 0 0 (prN (Fg.core w)), .i ((Fg.core w).length / prN (Fg.core w) : Nat)]) [.arr (.int .i64) ((Fg.core w).take (prN (Fg.core w))) true] := by
  have hc := l2Core hw
  have hl := (core_len hw).1
  have hwl := (word_q hw).1
  have hi := IsWordS w (by omega)
  rw [hw] at hi
  obtain ⟨n1, n2, n3, n4⟩ := prN_ok h0
  have hN : perF (Fg.core w) (Fg.core w).length 1 = prN (Fg.core w) := rfl
  generalize Fg.core w = c at *
  generalize prN c = N at *
  have hp := List.length_pos_iff.2 h0
  refine conT_of hmix hTab Tryd.func55 rfl rfl (by kernel_rfl) (by show 1 ≤ Tryd.f55.ntmps; decide) ?_
  refine stp ?_; try with_reducible exact True.intro
  refine useT (hi.toT) ?_; try with_reducible exact True.intro
  refine useT (hc) ?_; try with_reducible exact True.intro
  refine brF (decide_eq_false (by omega)) ?_
  refine stp ?_; try with_reducible exact True.intro
  refine useT (hc) ?_; try with_reducible exact True.intro
  refine ⟨Nat, fun k => 1 ≤ k ∧ k ≤ c.length ∧ perF c (c.length + 1 - k) k = N, fun k => c.length + 1 - k, fun k => [(4, .own 0 0 c.length), (5, .i k)], fun k => [.arr (.int .i64) c true], ⟨1, (fitK [] [1]), by omega, by omega, hN⟩, fun k ⟨k1, k2, k3⟩ => ?_⟩
  dsimp only at k1 k2 k3 ⊢
  have ed : ((c.length : Int).tdiv (k : Int)) = ((c.length / k : Nat) : Int) := rfl
  have ed2 : c.length / k ≤ c.length := Nat.div_le_self _ _
  have em : ((c.length : Int).tmod (k : Int)) = ((c.length % k : Nat) : Int) := rfl
  have k4 : c.length + 1 - k = (c.length - k) + 1 := by omega
  rw [k4, perF] at k3
  refine stp ?_; try with_reducible exact True.intro
  by_cases h2 : c.length % k = 0
  · refine brF (by rw [em, h2]; rfl) ?_
    refine stp ?_; try with_reducible exact True.intro
    refine useT ((turnS' (w := c) (k := k) (by omega) (by omega) (by omega))) ?_; try with_reducible exact True.intro
    refine useT ((sameS (rotL c k) c (by rw [rotL_len]; omega)).toT) ?_; try with_reducible exact True.intro
    by_cases h3 : rotL c k = c
    · rw [if_pos ⟨h2, h3⟩] at k3
      rw [decide_eq_true h3]
      subst k3
      refine stp ?_; try with_reducible exact True.intro
      refine OrW.fit (by rw [ed]; generalize c.length / k = z at *; omega) ?_
      refine stp ?_; try with_reducible exact True.intro
      have e1 : (c.drop (0 + Int.toNat 0)).take ((k : Int) - 0).toNat = c.take k := by simp
      refine ⟨.frz [], [3], ⟨?_, trivial⟩, ⟨?_, trivial⟩, by decide, rfl, rfl, rfl⟩
      · show V.tup [V.own 3 0 _, _] = V.tup [V.own 3 0 _, _]
        rw [e1, List.length_take, Nat.min_eq_left n2, List.length_nil, Nat.zero_add]
        rfl
      · show some (Obj.arr _ _ _) = some (Obj.arr _ _ _)
        simp only [e1]
        simp
    · rw [if_neg (fun h => h3 h.2)] at k3
      have hk : k < c.length := by
        rcases Nat.lt_or_ge k c.length with h | h
        · exact h
        · exact absurd (by rw [show k = c.length by omega]; exact rot_all c) h3
      rw [decide_eq_false h3]
      refine stp ?_; try with_reducible exact True.intro
      refine ⟨k + 1, (fitK [] [0]), ⟨by omega, by omega, by rw [show c.length + 1 - (k + 1) = c.length - k by omega]; exact k3⟩, by omega⟩
  · rw [if_neg (fun h => h2 h.1)] at k3
    have hk : k < c.length := by
      rcases Nat.lt_or_ge k c.length with h | h
      · exact h
      · exact absurd (by rw [show k = c.length by omega]; exact Nat.mod_self _) h2
    refine brT (by rw [em]; simp; omega) ?_
    refine stp ?_; try with_reducible exact True.intro
    refine ⟨k + 1, (fitK [] [0]), ⟨by omega, by omega, by rw [show c.length + 1 - (k + 1) = c.length - k by omega]; exact k3⟩, by omega⟩
theorem PowerOfI0 {w : List Int} (hw : wordOk w = true) (h0 : Fg.core w = []) : ConT Tryd.prog 63 [.il w] (.tup [.nil .unit, .i 0]) [] := by
  have hc := CoreWordI hw
  rw [h0] at hc
  refine conT_of hmix hTab Tryd.func63 rfl rfl (by kernel_rfl) (by show 1 ≤ Tryd.f63.ntmps; decide) ?_
  refine stp ?_; try with_reducible exact True.intro
  refine useT (hc) ?_; try with_reducible exact True.intro
  exact (fitK [] [])
theorem PowerOfS0 {w : List Int} (hw : wordOk w = true) (h0 : Fg.core w = []) : ConT Tryd.prog 55 [.il w] (.tup [.own 0 0 0, .i 0]) [.arr (.int .i64) [] true] := by
  have hc := l2Core hw
  have hwl := (word_q hw).1
  have hi := IsWordS w (by omega)
  rw [hw] at hi
  rw [h0] at hc
  refine conT_of hmix hTab Tryd.func55 rfl rfl (by kernel_rfl) (by show 1 ≤ Tryd.f55.ntmps; decide) ?_
  refine stp ?_; try with_reducible exact True.intro
  refine useT (hi.toT) ?_; try with_reducible exact True.intro
  refine useT (hc) ?_; try with_reducible exact True.intro
  exact (fitK [] [1])
def kM (w : List Int) : Nat := if Fg.core w = [] then 0 else (Fg.core w).length / prN (Fg.core w)
end Go.Proofs.YtffiddkignmobaaDoorTv
end
section
open Go Go.Proofs.YtffiddkignmobaaDoorVe Go.Proofs.YtffiddkignmobaaDoorTv Go.Proofs
namespace Go.Proofs.YtffiddkignmobaaDoorTv
set_option maxRecDepth 8000
set_option maxHeartbeats 2000000
abbrev Mx := Int × Int × Int × Int
abbrev mxV (m : Mx) : V := .agg [.i m.1, .i m.2.1, .i m.2.2.1, .i m.2.2.2]
def sml (x : Int) : Bool := decide (-1000 ≤ x ∧ x ≤ 1000)
theorem areSmall (l : List Int) (hl : (l.length : Int) ≤ 1000000) : ConS Tryd.prog 107 [.il l] (.b (l.all sml)) := by
  refine conS_of hmix hTab Tryd.func107 rfl rfl (by kernel_rfl) (by show 1 ≤ Tryd.f107.ntmps; decide) rfl ?_
  refine stp ?_; try with_reducible exact True.intro
  refine ⟨Nat, fun i => i ≤ l.length ∧ ∀ x ∈ l.take i, sml x = true, fun i => l.length - i, fun i => [(5, .il l), (6, .i l.length), (7, .i i)], fun i => [], ⟨0, (fitK [] []), by simp⟩, fun i ⟨hi, hs⟩ => ?_⟩
  dsimp only at hi hs ⊢
  refine stp ?_; try with_reducible exact True.intro
  refine Br.mk (fun h1 => ?_) (fun h1 => ?_) <;> simp [-Int.ofNat_toNat] at h1
  · refine stp ?_; try with_reducible exact True.intro
    refine useT ((within (rd l i) (-1000) 1000).toT) ?_; try with_reducible exact True.intro
    cases hb : decide (-1000 ≤ rd l i ∧ rd l i ≤ 1000) with
    | false =>
      refine stp ?_; try with_reducible exact True.intro
      rw [(List.all_eq_false (l := l) (p := sml)).2 ⟨rd l i, rd_memA h1, by unfold sml; rw [hb]; exact Bool.false_ne_true⟩]
    | true =>
      refine stp ?_; try with_reducible exact True.intro
      refine ⟨i + 1, (fitK [] []), ⟨by omega, fun x hx => ?_⟩, by first | ((try dsimp only); omega) | (simp; omega)⟩
      rw [take_succA h1] at hx
      rcases List.mem_append.1 hx with hx | hx
      · exact hs x hx
      · rw [List.mem_singleton] at hx
        subst hx
        exact hb
  · have e : i = l.length := by omega
    subst e
    rw [List.take_length] at hs
    refine stp ?_; try with_reducible exact True.intro
    rw [List.all_eq_true.2 hs]
theorem l11Fits (l : List Int) (hl : (l.length : Int) ≤ 1000000) : ConS Tryd.prog 102 [.il l] (.b (l.all sml)) := by
  refine conS_of hmix hTab Tryd.func102 rfl rfl (by kernel_rfl) (by show 1 ≤ Tryd.f102.ntmps; decide) rfl ?_
  refine stp ?_; try with_reducible exact True.intro
  refine ⟨Nat, fun i => i ≤ l.length ∧ ∀ x ∈ l.take i, sml x = true, fun i => l.length - i, fun i => [(0, .il l), (3, .i i)], fun i => [], ⟨0, (fitK [] []), by simp⟩, fun i ⟨hi, hs⟩ => ?_⟩
  dsimp only at hi hs ⊢
  refine stp ?_; try with_reducible exact True.intro
  refine Br.mk (fun h1 => ?_) (fun h1 => ?_) <;> simp [-Int.ofNat_toNat] at h1
  · refine stp ?_; try with_reducible exact True.intro
    refine useT ((l1In (rd l i) (-1000) 1000).toT) ?_; try with_reducible exact True.intro
    cases hb : decide (-1000 ≤ rd l i ∧ rd l i ≤ 1000) with
    | false =>
      refine stp ?_; try with_reducible exact True.intro
      rw [(List.all_eq_false (l := l) (p := sml)).2 ⟨rd l i, rd_memA h1, by unfold sml; rw [hb]; exact Bool.false_ne_true⟩]
    | true =>
      refine stp ?_; try with_reducible exact True.intro
      refine ⟨i + 1, (fitK [] []), ⟨by omega, fun x hx => ?_⟩, by first | ((try dsimp only); omega) | (simp; omega)⟩
      rw [take_succA h1] at hx
      rcases List.mem_append.1 hx with hx | hx
      · exact hs x hx
      · rw [List.mem_singleton] at hx
        subst hx
        exact hb
  · have e : i = l.length := by omega
    subst e
    rw [List.take_length] at hs
    refine stp ?_; try with_reducible exact True.intro
    rw [List.all_eq_true.2 hs]
def isM (m : Mx) : Bool := [m.1, m.2.1, m.2.2.1, m.2.2.2].all sml && decide (m.1 * m.2.2.2 - m.2.1 * m.2.2.1 = 1)
theorem mul_bd {a b n m : Int} (ha : -n ≤ a ∧ a ≤ n) (hb : -m ≤ b ∧ b ≤ m) : -(n * m) ≤ a * b ∧ a * b ≤ n * m := by
  have h : (a * b).natAbs ≤ n.toNat * m.toNat := by
    rw [Int.natAbs_mul]
    exact Nat.mul_le_mul (by omega) (by omega)
  have e : ((n.toNat * m.toNat : Nat) : Int) = n * m := by
    rw [Int.natCast_mul, Int.toNat_of_nonneg (by omega), Int.toNat_of_nonneg (by omega)]
  omega
theorem mul_k {a b : Int} (ha : -1000 ≤ a ∧ a ≤ 1000) (hb : -1000 ≤ b ∧ b ≤ 1000) : -1000000 ≤ a * b ∧ a * b ≤ 1000000 := mul_bd ha hb
structure MxF (a b c d : Int) : Prop where
  a : -1000 ≤ a ∧ a ≤ 1000
  b : -1000 ≤ b ∧ b ≤ 1000
  c : -1000 ≤ c ∧ c ≤ 1000
  d : -1000 ≤ d ∧ d ≤ 1000
theorem sml4 {a b c d : Int} : [a, b, c, d].all sml = true ↔ MxF a b c d := by
  simp only [List.all_cons, List.all_nil, Bool.and_true, Bool.and_eq_true, sml, decide_eq_true_eq]
  exact ⟨fun ⟨h1, h2, h3, h4⟩ => ⟨h1, h2, h3, h4⟩, fun ⟨h1, h2, h3, h4⟩ => ⟨h1, h2, h3, h4⟩⟩
theorem isM_iff {a b c d : Int} : isM (a, b, c, d) = true ↔ MxF a b c d ∧ a * d - b * c = 1 := by
  unfold isM
  rw [Bool.and_eq_true, decide_eq_true_eq]
  exact and_congr sml4 Iff.rfl
theorem IsMatrixI (m : Mx) : ConS Tryd.prog 34 [mxV m] (.b (isM m)) := by
  obtain ⟨a, b, c, d⟩ := m
  have w := areSmall [a, b, c, d] (by simp)
  have hx := @sml4 a b c d
  unfold isM
  dsimp only [mxV]
  generalize [a, b, c, d].all sml = q at *
  refine conS_of hmix hTab Tryd.func34 rfl rfl (by kernel_rfl) (by show 1 ≤ Tryd.f34.ntmps; decide) rfl ?_
  repeat (first | (with_reducible refine wpKs ?_) | (with_reducible refine wpKb ?_) | (with_reducible refine wpKbn ?_) | (with_reducible refine wpKk ?_) | (refine wpKt rfl ?_) | (refine wpKf rfl ?_) | (with_reducible refine wpKr ?_) | ((with_reducible refine wpKd ?_ ?_); kernel_rfl) | (with_reducible refine wpKn ?_) | (with_reducible refine seqKn ?_) | (with_reducible refine drawKn ?_) | (first | refine seqKs rfl rfl rfl rfl ?_ | refine seqKu rfl rfl rfl rfl ?_ | refine drawKs rfl rfl rfl rfl ?_ | refine drawKu rfl rfl rfl rfl ?_) | ((first | refine seqK rfl rfl (fun K' hK => ?_) | refine seqKr rfl rfl rfl rfl (fun K' hK => ?_)); refine stp ?_; with_reducible refine hK _ _ ?_; clear hK K') | ((first | refine drawK rfl rfl (fun K' hK => ?_) | refine drawKr rfl rfl rfl rfl (fun K' hK => ?_)); refine stp ?_; with_reducible refine hK _ _ _ ?_; clear hK K') | (refine seqKz rfl rfl (fun K' hK => ?_); refine stp ?_; with_reducible refine hK _ ?_; clear hK K') | (refine drawKz rfl rfl (fun K' hK => ?_); refine stp ?_; with_reducible refine hK _ _ ?_; clear hK K'))
  (first | refine seqK rfl rfl (fun K' hK => ?_) | refine seqKr rfl rfl rfl rfl (fun K' hK => ?_)); (conv => whnf); refine useT (w.toT) ?_; with_reducible refine hK _ _ ?_; clear hK K'; repeat (first | (with_reducible refine wpKs ?_) | (with_reducible refine wpKb ?_) | (with_reducible refine wpKbn ?_) | (with_reducible refine wpKk ?_) | (refine wpKt rfl ?_) | (refine wpKf rfl ?_) | (with_reducible refine wpKr ?_) | ((with_reducible refine wpKd ?_ ?_); kernel_rfl) | (with_reducible refine wpKn ?_) | (with_reducible refine seqKn ?_) | (with_reducible refine drawKn ?_) | (first | refine seqKs rfl rfl rfl rfl ?_ | refine seqKu rfl rfl rfl rfl ?_ | refine drawKs rfl rfl rfl rfl ?_ | refine drawKu rfl rfl rfl rfl ?_) | ((first | refine seqK rfl rfl (fun K' hK => ?_) | refine seqKr rfl rfl rfl rfl (fun K' hK => ?_)); refine stp ?_; with_reducible refine hK _ _ ?_; clear hK K') | ((first | refine drawK rfl rfl (fun K' hK => ?_) | refine drawKr rfl rfl rfl rfl (fun K' hK => ?_)); refine stp ?_; with_reducible refine hK _ _ _ ?_; clear hK K') | (refine seqKz rfl rfl (fun K' hK => ?_); refine stp ?_; with_reducible refine hK _ ?_; clear hK K') | (refine drawKz rfl rfl (fun K' hK => ?_); refine stp ?_; with_reducible refine hK _ _ ?_; clear hK K'))
  cases q
  · repeat (first | (with_reducible refine wpKs ?_) | (with_reducible refine wpKb ?_) | (with_reducible refine wpKbn ?_) | (with_reducible refine wpKk ?_) | (refine wpKt rfl ?_) | (refine wpKf rfl ?_) | (with_reducible refine wpKr ?_) | ((with_reducible refine wpKd ?_ ?_); kernel_rfl) | (with_reducible refine wpKn ?_) | (with_reducible refine seqKn ?_) | (with_reducible refine drawKn ?_) | (first | refine seqKs rfl rfl rfl rfl ?_ | refine seqKu rfl rfl rfl rfl ?_ | refine drawKs rfl rfl rfl rfl ?_ | refine drawKu rfl rfl rfl rfl ?_) | ((first | refine seqK rfl rfl (fun K' hK => ?_) | refine seqKr rfl rfl rfl rfl (fun K' hK => ?_)); refine stp ?_; with_reducible refine hK _ _ ?_; clear hK K') | ((first | refine drawK rfl rfl (fun K' hK => ?_) | refine drawKr rfl rfl rfl rfl (fun K' hK => ?_)); refine stp ?_; with_reducible refine hK _ _ _ ?_; clear hK K') | (refine seqKz rfl rfl (fun K' hK => ?_); refine stp ?_; with_reducible refine hK _ ?_; clear hK K') | (refine drawKz rfl rfl (fun K' hK => ?_); refine stp ?_; with_reducible refine hK _ _ ?_; clear hK K'))
    refine stp ?_; try with_reducible exact True.intro
    rfl
  · obtain ⟨ha, hb, hc, hd⟩ := hx.1 rfl
    have h1 := mul_k ha hd
    have h2 := mul_k hb hc
    repeat (first | (with_reducible refine wpKs ?_) | (with_reducible refine wpKb ?_) | (with_reducible refine wpKbn ?_) | (with_reducible refine wpKk ?_) | (refine wpKt rfl ?_) | (refine wpKf rfl ?_) | (with_reducible refine wpKr ?_) | ((with_reducible refine wpKd ?_ ?_); kernel_rfl) | (with_reducible refine wpKn ?_) | (with_reducible refine seqKn ?_) | (with_reducible refine drawKn ?_) | (first | refine seqKs rfl rfl rfl rfl ?_ | refine seqKu rfl rfl rfl rfl ?_ | refine drawKs rfl rfl rfl rfl ?_ | refine drawKu rfl rfl rfl rfl ?_) | ((first | refine seqK rfl rfl (fun K' hK => ?_) | refine seqKr rfl rfl rfl rfl (fun K' hK => ?_)); refine stp ?_; with_reducible refine hK _ _ ?_; clear hK K') | ((first | refine drawK rfl rfl (fun K' hK => ?_) | refine drawKr rfl rfl rfl rfl (fun K' hK => ?_)); refine stp ?_; with_reducible refine hK _ _ _ ?_; clear hK K') | (refine seqKz rfl rfl (fun K' hK => ?_); refine stp ?_; with_reducible refine hK _ ?_; clear hK K') | (refine drawKz rfl rfl (fun K' hK => ?_); refine stp ?_; with_reducible refine hK _ _ ?_; clear hK K'))
    refine stp ?_; try with_reducible exact True.intro
    rfl
theorem IsMatrixS (m : Mx) : ConS Tryd.prog 27 [mxV m] (.b (isM m)) := by
  obtain ⟨a, b, c, d⟩ := m
  have w := l11Fits [a, b, c, d] (by simp)
  have hx := @sml4 a b c d
  unfold isM
  dsimp only [mxV]
  generalize [a, b, c, d].all sml = q at *
  refine conS_of hmix hTab Tryd.func27 rfl rfl (by kernel_rfl) (by show 1 ≤ Tryd.f27.ntmps; decide) rfl ?_
  repeat (first | (with_reducible refine wpKs ?_) | (with_reducible refine wpKb ?_) | (with_reducible refine wpKbn ?_) | (with_reducible refine wpKk ?_) | (refine wpKt rfl ?_) | (refine wpKf rfl ?_) | (with_reducible refine wpKr ?_) | ((with_reducible refine wpKd ?_ ?_); kernel_rfl) | (with_reducible refine wpKn ?_) | (with_reducible refine seqKn ?_) | (with_reducible refine drawKn ?_) | (first | refine seqKs rfl rfl rfl rfl ?_ | refine seqKu rfl rfl rfl rfl ?_ | refine drawKs rfl rfl rfl rfl ?_ | refine drawKu rfl rfl rfl rfl ?_) | ((first | refine seqK rfl rfl (fun K' hK => ?_) | refine seqKr rfl rfl rfl rfl (fun K' hK => ?_)); refine stp ?_; with_reducible refine hK _ _ ?_; clear hK K') | ((first | refine drawK rfl rfl (fun K' hK => ?_) | refine drawKr rfl rfl rfl rfl (fun K' hK => ?_)); refine stp ?_; with_reducible refine hK _ _ _ ?_; clear hK K') | (refine seqKz rfl rfl (fun K' hK => ?_); refine stp ?_; with_reducible refine hK _ ?_; clear hK K') | (refine drawKz rfl rfl (fun K' hK => ?_); refine stp ?_; with_reducible refine hK _ _ ?_; clear hK K'))
  (first | refine seqK rfl rfl (fun K' hK => ?_) | refine seqKr rfl rfl rfl rfl (fun K' hK => ?_)); (conv => whnf); refine useT (w.toT) ?_; with_reducible refine hK _ _ ?_; clear hK K'; repeat (first | (with_reducible refine wpKs ?_) | (with_reducible refine wpKb ?_) | (with_reducible refine wpKbn ?_) | (with_reducible refine wpKk ?_) | (refine wpKt rfl ?_) | (refine wpKf rfl ?_) | (with_reducible refine wpKr ?_) | ((with_reducible refine wpKd ?_ ?_); kernel_rfl) | (with_reducible refine wpKn ?_) | (with_reducible refine seqKn ?_) | (with_reducible refine drawKn ?_) | (first | refine seqKs rfl rfl rfl rfl ?_ | refine seqKu rfl rfl rfl rfl ?_ | refine drawKs rfl rfl rfl rfl ?_ | refine drawKu rfl rfl rfl rfl ?_) | ((first | refine seqK rfl rfl (fun K' hK => ?_) | refine seqKr rfl rfl rfl rfl (fun K' hK => ?_)); refine stp ?_; with_reducible refine hK _ _ ?_; clear hK K') | ((first | refine drawK rfl rfl (fun K' hK => ?_) | refine drawKr rfl rfl rfl rfl (fun K' hK => ?_)); refine stp ?_; with_reducible refine hK _ _ _ ?_; clear hK K') | (refine seqKz rfl rfl (fun K' hK => ?_); refine stp ?_; with_reducible refine hK _ ?_; clear hK K') | (refine drawKz rfl rfl (fun K' hK => ?_); refine stp ?_; with_reducible refine hK _ _ ?_; clear hK K'))
  cases q
  · repeat (first | (with_reducible refine wpKs ?_) | (with_reducible refine wpKb ?_) | (with_reducible refine wpKbn ?_) | (with_reducible refine wpKk ?_) | (refine wpKt rfl ?_) | (refine wpKf rfl ?_) | (with_reducible refine wpKr ?_) | ((with_reducible refine wpKd ?_ ?_); kernel_rfl) | (with_reducible refine wpKn ?_) | (with_reducible refine seqKn ?_) | (with_reducible refine drawKn ?_) | (first | refine seqKs rfl rfl rfl rfl ?_ | refine seqKu rfl rfl rfl rfl ?_ | refine drawKs rfl rfl rfl rfl ?_ | refine drawKu rfl rfl rfl rfl ?_) | ((first | refine seqK rfl rfl (fun K' hK => ?_) | refine seqKr rfl rfl rfl rfl (fun K' hK => ?_)); refine stp ?_; with_reducible refine hK _ _ ?_; clear hK K') | ((first | refine drawK rfl rfl (fun K' hK => ?_) | refine drawKr rfl rfl rfl rfl (fun K' hK => ?_)); refine stp ?_; with_reducible refine hK _ _ _ ?_; clear hK K') | (refine seqKz rfl rfl (fun K' hK => ?_); refine stp ?_; with_reducible refine hK _ ?_; clear hK K') | (refine drawKz rfl rfl (fun K' hK => ?_); refine stp ?_; with_reducible refine hK _ _ ?_; clear hK K'))
    refine stp ?_; try with_reducible exact True.intro
    rfl
  · obtain ⟨ha, hb, hc, hd⟩ := hx.1 rfl
    have h1 := mul_k ha hd
    have h2 := mul_k hb hc
    repeat (first | (with_reducible refine wpKs ?_) | (with_reducible refine wpKb ?_) | (with_reducible refine wpKbn ?_) | (with_reducible refine wpKk ?_) | (refine wpKt rfl ?_) | (refine wpKf rfl ?_) | (with_reducible refine wpKr ?_) | ((with_reducible refine wpKd ?_ ?_); kernel_rfl) | (with_reducible refine wpKn ?_) | (with_reducible refine seqKn ?_) | (with_reducible refine drawKn ?_) | (first | refine seqKs rfl rfl rfl rfl ?_ | refine seqKu rfl rfl rfl rfl ?_ | refine drawKs rfl rfl rfl rfl ?_ | refine drawKu rfl rfl rfl rfl ?_) | ((first | refine seqK rfl rfl (fun K' hK => ?_) | refine seqKr rfl rfl rfl rfl (fun K' hK => ?_)); refine stp ?_; with_reducible refine hK _ _ ?_; clear hK K') | ((first | refine drawK rfl rfl (fun K' hK => ?_) | refine drawKr rfl rfl rfl rfl (fun K' hK => ?_)); refine stp ?_; with_reducible refine hK _ _ _ ?_; clear hK K') | (refine seqKz rfl rfl (fun K' hK => ?_); refine stp ?_; with_reducible refine hK _ ?_; clear hK K') | (refine drawKz rfl rfl (fun K' hK => ?_); refine stp ?_; with_reducible refine hK _ _ ?_; clear hK K'))
    refine stp ?_; try with_reducible exact True.intro
    rfl
end Go.Proofs.YtffiddkignmobaaDoorTv
end
