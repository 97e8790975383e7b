/- What functions of the program give: each contract holds for all arguments that its own sentence names. -/
import Derived.Test.YtlglchbkenaekaaFnFnExactPantsDistance1
set_option linter.unusedVariables false
set_option linter.unusedSimpArgs false
section
open Go Go.Proofs.YtlglchbkenaekaaVe Go.Proofs.YtlglchbkenaekaaTv Go.Proofs
namespace Go.Proofs.YtlglchbkenaekaaTv
set_option maxRecDepth 8000
set_option maxHeartbeats 2000000
def gtP (e f : List Int) : Bool := decide (rd e 0 > rd f 0) || (decide (rd e 0 = rd f 0) && decide (rd e 1 > rd f 1))
/-- Where a pair comes in, from the end of an ascending list on. -/
def posP (out : List (List Int)) (own : List Int) : Nat → Nat
  | 0 => 0
  | k + 1 => if gtP (rdR out k) own = true then posP out own k else k + 1
def insP (out : List (List Int)) (own : List Int) : List (List Int) := out.take (posP out own out.length) ++ own :: out.drop (posP out own out.length)
def pairN (names e : List Int) : List Int := [min (rd names (rd e 0)) (rd names (rd e 1)), max (rd names (rd e 0)) (rd names (rd e 1))]
def renF (ll : List (List Int)) (names : List Int) (i : Nat) : List (List Int) := (ll.take i).foldl (fun out e => insP out (pairN names e)) []
theorem posP_le (out : List (List Int)) (own : List Int) : ∀ k, posP out own k ≤ k
  | 0 => Nat.le_refl _
  | k + 1 => by
    unfold posP
    split
    · exact Nat.le_succ_of_le (posP_le out own k)
    · exact Nat.le_refl _
theorem insP_length (out : List (List Int)) (own : List Int) : (insP out own).length = out.length + 1 := by
  have := posP_le out own out.length
  simp [insP]; omega
theorem insP_row {out : List (List Int)} {own : List Int} (h : ∀ r ∈ out, r.length = 2) (h2 : own.length = 2) : ∀ r ∈ insP out own, r.length = 2 := fun r hr => by
  rcases List.mem_append.1 hr with h1 | h1
  · exact h r (List.mem_of_mem_take h1)
  · rcases List.mem_cons.1 h1 with rfl | h1
    · exact h2
    · exact h r (List.mem_of_mem_drop h1)
theorem renF_succ {ll : List (List Int)} {names : List Int} {i : Nat} (h : i < ll.length) : renF ll names (i + 1) = insP (renF ll names i) (pairN names (rdR ll i)) := by
  unfold renF
  rw [take_succR h, List.foldl_append]
  rfl
theorem renF_facts {ll : List (List Int)} {names : List Int} : ∀ i, i ≤ ll.length → (renF ll names i).length = i ∧ ∀ r ∈ renF ll names i, r.length = 2
  | 0, _ => by simp [renF]
  | i + 1, h => by
    obtain ⟨h1, h2⟩ := renF_facts (ll := ll) (names := names) i (Nat.le_of_succ_le h)
    have hi : i < ll.length := h
    rw [renF_succ hi]
    exact ⟨by rw [insP_length, h1], insP_row h2 rfl⟩
theorem shift_eq {out : List (List Int)} {own : List Int} {j k n : Nat} (hj : j = k) (hk : k ≤ out.length) (hn : n = out.length - k) : (List.take j (out ++ [[]]) ++ [] :: List.take n (List.drop j (out ++ [[]]))).set j own = out.take k ++ own :: out.drop k := by
  subst hj; subst hn
  have e : (out.take j).length = j := by simp; omega
  rw [List.take_append_of_le_length hk, List.drop_append_of_le_length hk, List.take_append_of_le_length (by simp), List.take_of_length_le (l := out.drop j) (by simp), List.set_append_right _ _ (by omega), e, Nat.sub_self, List.set_cons_zero]
theorem set_self {out : List (List Int)} {j k : Nat} (hj : j = k) : out.set j (rdR out k) = out := by
  subst hj
  rcases Nat.lt_or_ge j out.length with h | h
  · simp [rdR, h]
  · exact List.set_eq_of_length_le h
theorem renamed (ll : List (List Int)) (names : List Int) (hl : ll.length ≤ 9) (hr : ∀ j : Nat, j < ll.length → (rdR ll j).length = 2 ∧ (0 ≤ rd (rdR ll j) 0 ∧ rd (rdR ll j) 0 < names.length) ∧ (0 ≤ rd (rdR ll j) 1 ∧ rd (rdR ll j) 1 < names.length)) : ConT Try.prog 71 [.ill ll, .il names] (.own 0 0 ll.length) [.arr (.list (.int .i64)) (renF ll names ll.length) true] := by
  refine conT_of hmix hTab Try.func71 rfl rfl (by kernel_rfl) (by show 2 ≤ Try.f71.ntmps; decide) ?_
  have hlast := (renF_facts (names := names) ll.length (Nat.le_refl _)).1
  refine stp ?_; try with_reducible exact True.intro
  refine Or.inl ?_; refine stp ?_; try with_reducible exact True.intro
  refine ⟨Nat, fun i => i ≤ ll.length, fun i => ll.length - i, fun i => [(1, .il names), (5, .own 0 0 (renF ll names i).length), (11, .ill ll), (12, .i ll.length), (13, .i i)], fun i => [.arr (.list (.int .i64)) (renF ll names i) true], ⟨0, (fitK [] [0]), Nat.zero_le _⟩, fun i hi => ?_⟩
  dsimp only at hi ⊢
  obtain ⟨hol, hor⟩ := renF_facts (names := names) i hi
  refine stp ?_; try with_reducible exact True.intro
  refine Br.mk (fun h => ?_) (fun h => ?_) <;> simp [-Int.ofNat_toNat] at h
  · obtain ⟨hr1, hr2, hr3⟩ := hr i h
    have hs := renF_succ (names := names) h
    have ql : List.length (rdT (.list (.int .i64)) ll (i : Int)) = (rdR ll i).length := rfl; have q0 : @Eq Int (rdT (.int .i64) (rdT (.list (.int .i64)) ll (i : Int)) 0) (rd (rdR ll i) 0) := rfl; have q1 : @Eq Int (rdT (.int .i64) (rdT (.list (.int .i64)) ll (i : Int)) 1) (rd (rdR ll i) 1) := rfl; have qlo : List.length (rdT (.list (.int .i64)) ll (((i : Int).toNat : Nat) : Int)) = (rdR ll i).length := rfl; have q0o : @Eq Int (rdT (.int .i64) (rdT (.list (.int .i64)) ll (((i : Int).toNat : Nat) : Int)) 0) (rd (rdR ll i) 0) := rfl; have q1o : @Eq Int (rdT (.int .i64) (rdT (.list (.int .i64)) ll (((i : Int).toNat : Nat) : Int)) 1) (rd (rdR ll i) 1) := rfl
    generalize hout : renF ll names i = out at *
    refine stp ?_; try with_reducible exact True.intro
    refine useT (pair (rd names (rd (rdR ll i) 0)) (rd names (rd (rdR ll i) 1))) ?_; try with_reducible exact True.intro
    have hown : [min (rd names (rd (rdR ll i) 0)) (rd names (rd (rdR ll i) 1)), max (rd names (rd (rdR ll i) 0)) (rd names (rd (rdR ll i) 1))] = pairN names (rdR ll i) := rfl
    simp only [hown]
    have hownl : (pairN names (rdR ll i)).length = 2 := rfl
    generalize pairN names (rdR ll i) = own at *
    refine ⟨Nat, fun k => k ≤ out.length ∧ posP out own out.length = posP out own k, fun k => k, fun k => [(1, .il names), (5, .own 0 0 out.length), (8, .own 1 0 2), (9, .i k), (11, .ill ll), (12, .i ll.length), (13, .i i)], fun k => [.arr (.list (.int .i64)) out true, .arr (.int .i64) own true], ⟨out.length, (fitK [] [0, 1]), Nat.le_refl _, rfl⟩, fun k ⟨hk, hpos⟩ => ?_⟩
    dsimp only at hk hpos ⊢
    cases k with
    | zero =>
      have hins : insP out own = out.take 0 ++ own :: out.drop 0 := by unfold insP; rw [hpos]; rfl
      refine stp ?_; try with_reducible exact True.intro
      refine Or.inl ?_
      refine stp ?_; try with_reducible exact True.intro
      refine Or.inl ⟨_, _, rfl, rfl, by decide, rfl, by first | rfl | omega | (simp; done) | (simp; omega), rfl, by first | rfl | omega | (simp; done) | (simp; omega), by first | omega | (simp; omega), ?_⟩; refine stp ?_; try with_reducible exact True.intro
      refine ⟨i + 1, ⟨.frz [], [3], ⟨rfl, ?_, rfl, rfl, rfl, trivial⟩, ⟨?_, trivial⟩, by decide, rfl, rfl, rfl⟩, by first | ((try dsimp only); omega) | (simp; omega), by first | ((try dsimp only); omega) | (simp; omega)⟩
      · rw [hs, insP_length]; rfl
      · rw [hs, hins]
        exact congrArg (fun x => some (Obj.arr (.list (.int .i64)) x true)) (shift_eq (k := 0) (by rfl) (Nat.zero_le _) (by simp))
    | succ k =>
      rw [posP] at hpos
      have hrow2 : (rdR out k).length = 2 := hor _ (by simp [rdR, show k < out.length by omega])
      have hg : out.getD (((k + 1 : Nat) : Int) - 1).toNat [] = rdR out k := by
        rw [show (((k + 1 : Nat) : Int) - 1).toNat = k by omega]; rfl
      have hne : ∀ {p : Prop}, out.getD (((k + 1 : Nat) : Int) - 1).toNat [] = [] → p := fun he => by rw [hg] at he; rw [he] at hrow2; cases hrow2
      refine stp ?_; try with_reducible exact True.intro
      refine brT (decide_eq_true (by omega)) ?_
      refine stp ?_; try with_reducible exact True.intro
      refine .inr ⟨by first | rfl | trivial, by omega, ⟨fun he => hne he, ?_⟩⟩
      simp only [hg]
      refine stp ?_; try with_reducible exact True.intro
      have hset : out.set (((k + 1 : Nat) : Int) - 1).toNat (rdR out k) = out := set_self (by omega)
      have hins : k + 1 = posP out own out.length → insP out own = out.take (k + 1) ++ own :: out.drop (k + 1) := fun e => by unfold insP; rw [← e]
      refine Br.mk (fun c1 => ?_) (fun c1 => ?_) <;> simp only [decide_eq_true_eq, decide_eq_false_iff_not, ne_eq, Decidable.not_not, Bool.not_eq_eq_eq_not, Bool.not_true, Bool.not_false] at c1
      · replace c1 : rd own 0 < rd (rdR out k) 0 := c1
        rw [if_pos (by simp [gtP, c1])] at hpos
        refine stp ?_; try with_reducible exact True.intro
        refine ⟨k, ⟨.jn 0 ⟨Nat.zero_le _, _, rfl, rfl, by simp, by simp, rfl⟩ (.frz []), [0, 1], ⟨rfl, rfl, rfl, ?_, rfl, rfl, rfl, trivial⟩, ⟨?_, rfl, trivial⟩, by decide, rfl, rfl, rfl⟩, ⟨by omega, hpos⟩, by first | ((try dsimp only); omega) | (simp; omega)⟩
        · show V.i (((k + 1 : Nat) : Int) - 1) = V.i (k : Int)
          rw [show ((k + 1 : Nat) : Int) - 1 = (k : Int) by omega]
        · show some (Obj.arr (.list (.int .i64)) (out.set (((k + 1 : Nat) : Int) - 1).toNat (rdR out k)) true) = _
          rw [hset]
          rfl
      · replace c1 : ¬ rd own 0 < rd (rdR out k) 0 := c1
        refine stp ?_; try with_reducible exact True.intro
        refine .inl ⟨rfl, ?_⟩
        refine stp ?_; try with_reducible exact True.intro
        refine Br.mk (fun c2 => ?_) (fun c2 => ?_) <;> simp only [decide_eq_true_eq, decide_eq_false_iff_not, ne_eq, Decidable.not_not, Bool.not_eq_eq_eq_not, Bool.not_true, Bool.not_false] at c2
        · replace c2 : rd (rdR out k) 0 = rd own 0 := c2
          refine stp ?_; try with_reducible exact True.intro
          refine .inl ⟨rfl, ?_⟩
          refine stp ?_; try with_reducible exact True.intro
          refine Br.mk (fun c3 => ?_) (fun c3 => ?_) <;> simp only [decide_eq_true_eq, decide_eq_false_iff_not, ne_eq, Decidable.not_not, Bool.not_eq_eq_eq_not, Bool.not_true, Bool.not_false] at c3
          · replace c3 : rd own 1 < rd (rdR out k) 1 := c3
            rw [if_pos (by simp [gtP, c2, c3])] at hpos
            refine stp ?_; try with_reducible exact True.intro
            refine ⟨k, ⟨.jn 0 ⟨Nat.zero_le _, _, rfl, rfl, by simp, by simp, rfl⟩ (.frz []), [0, 1], ⟨rfl, rfl, rfl, ?_, rfl, rfl, rfl, trivial⟩, ⟨?_, rfl, trivial⟩, by decide, rfl, rfl, rfl⟩, ⟨by omega, hpos⟩, by first | ((try dsimp only); omega) | (simp; omega)⟩
            · show V.i (((k + 1 : Nat) : Int) - 1) = V.i (k : Int)
              rw [show ((k + 1 : Nat) : Int) - 1 = (k : Int) by omega]
            · show some (Obj.arr (.list (.int .i64)) (out.set (((k + 1 : Nat) : Int) - 1).toNat (rdR out k)) true) = _
              rw [hset]
              rfl
          · replace c3 : ¬ rd own 1 < rd (rdR out k) 1 := c3
            rw [if_neg (by simp [gtP, c2]; omega)] at hpos
            refine stp ?_; try with_reducible exact True.intro
            refine Or.inl ?_
            refine stp ?_; try with_reducible exact True.intro
            simp only [hset]
            refine Or.inl ⟨_, _, rfl, rfl, by decide, rfl, by first | rfl | omega | (simp; done) | (simp; omega), rfl, by first | rfl | omega | (simp; done) | (simp; omega), by first | omega | (simp; omega), ?_⟩; refine stp ?_; try with_reducible exact True.intro
            refine ⟨i + 1, ⟨.frz [], [4], ⟨rfl, ?_, rfl, rfl, rfl, trivial⟩, ⟨?_, trivial⟩, by decide, rfl, rfl, rfl⟩, by first | ((try dsimp only); omega) | (simp; omega), by first | ((try dsimp only); omega) | (simp; omega)⟩
            · rw [hs, insP_length]; rfl
            · rw [hs, hins (hpos.symm)]
              exact congrArg (fun x => some (Obj.arr (.list (.int .i64)) x true)) (shift_eq (k := k + 1) (by simp) hk (by simp; omega))
        · replace c2 : ¬ rd (rdR out k) 0 = rd own 0 := c2
          rw [if_neg (by simp [gtP, c2]; omega)] at hpos
          refine stp ?_; try with_reducible exact True.intro
          refine Or.inl ?_
          refine stp ?_; try with_reducible exact True.intro
          simp only [hset]
          refine Or.inl ⟨_, _, rfl, rfl, by decide, rfl, by first | rfl | omega | (simp; done) | (simp; omega), rfl, by first | rfl | omega | (simp; done) | (simp; omega), by first | omega | (simp; omega), ?_⟩; refine stp ?_; try with_reducible exact True.intro
          refine ⟨i + 1, ⟨.frz [], [4], ⟨rfl, ?_, rfl, rfl, rfl, trivial⟩, ⟨?_, trivial⟩, by decide, rfl, rfl, rfl⟩, by first | ((try dsimp only); omega) | (simp; omega), by first | ((try dsimp only); omega) | (simp; omega)⟩
          · rw [hs, insP_length]; rfl
          · rw [hs, hins (hpos.symm)]
            exact congrArg (fun x => some (Obj.arr (.list (.int .i64)) x true)) (shift_eq (k := k + 1) (by simp) hk (by simp; omega))
  · obtain rfl : i = ll.length := by omega
    rw [hol]
    refine stp ?_; try with_reducible exact True.intro
    exact (fitK [] [0])
end Go.Proofs.YtlglchbkenaekaaTv
end
section
open Go Go.Proofs.YtlglchbkenaekaaVe Go.Proofs.YtlglchbkenaekaaTv Go.Proofs
namespace Go.Proofs.YtlglchbkenaekaaTv
set_option maxRecDepth 8000
set_option maxHeartbeats 2000000
/-- The first difference of two lists of pairs. -/
def cmpF : List (List Int) → List (List Int) → Int
  | e :: a, f :: b => if rd e 0 ≠ rd f 0 then rd e 0 - rd f 0 else if rd e 1 ≠ rd f 1 then rd e 1 - rd f 1 else cmpF a b
  | _, _ => 0
def Small (a : List (List Int)) : Prop := ∀ j : Nat, j < a.length → (rdR a j).length = 2 ∧ (0 ≤ rd (rdR a j) 0 ∧ rd (rdR a j) 0 ≤ 1000) ∧ (0 ≤ rd (rdR a j) 1 ∧ rd (rdR a j) 1 ≤ 1000)
theorem l19Less (a b : List (List Int)) (hl : a.length ≤ 9) (hab : b.length = a.length) (ha : Small a) (hb : Small b) : ConS Try.prog 102 [.ill a, .ill b] (.b (decide (cmpF a b < 0))) := by
  refine conS_of hmix hTab Try.func102 rfl rfl (by kernel_rfl) (by show 2 ≤ Try.f102.ntmps; decide) rfl ?_
  refine stp ?_; try with_reducible exact True.intro
  refine ⟨Nat, fun i => i ≤ a.length ∧ cmpF (a.drop i) (b.drop i) = cmpF a b, fun i => a.length - i, fun i => [(0, .ill a), (1, .ill b), (5, .i i)], fun i => [], ⟨0, (fitK [] []), by simp⟩, fun i ⟨hi, hc⟩ => ?_⟩
  dsimp only at hi hc ⊢
  refine stp ?_; try with_reducible exact True.intro
  refine Br.mk (fun h1 => ?_) (fun h1 => ?_) <;> simp [-Int.ofNat_toNat] at h1
  · rw [drop_consR h1, drop_consR (by omega : i < b.length), cmpF] at hc
    obtain ⟨a0, a1, a2⟩ := ha i h1
    obtain ⟨b0, b1, b2⟩ := hb i (by omega)
    refine stp ?_; try with_reducible exact True.intro
    refine ⟨Nat, fun j => j ≤ 2 ∧ (1 ≤ j → rd (rdR a i) 0 = rd (rdR b i) 0) ∧ (2 ≤ j → rd (rdR a i) 1 = rd (rdR b i) 1), fun j => 2 - j, fun j => [(0, .ill a), (1, .ill b), (5, .i i), (6, .i j)], fun j => [], ⟨0, (fitK [] []), by simp⟩, fun j ⟨hj, hj1, hj2⟩ => ?_⟩
    dsimp only at hj hj1 hj2 ⊢
    have qa : List.length (rdT (.list (.int .i64)) a (i : Int)) = 2 := a0
    have qb : List.length (rdT (.list (.int .i64)) b (i : Int)) = 2 := b0
    refine stp ?_; try with_reducible exact True.intro
    refine Br.mk (fun h2 => ?_) (fun h2 => ?_) <;> simp [-Int.ofNat_toNat] at h2
    · obtain rfl | rfl : j = 0 ∨ j = 1 := by omega
      · refine stp ?_; try with_reducible exact True.intro
        refine Br.mk (fun h3 => ?_) (fun h3 => ?_) <;> simp only [decide_eq_true_eq, decide_eq_false_iff_not, ne_eq, Decidable.not_not, Bool.not_eq_eq_eq_not, Bool.not_true, Bool.not_false] at h3
        · replace h3 : ¬ rd (rdR a i) 0 = rd (rdR b i) 0 := h3
          rw [if_pos h3] at hc
          refine stp ?_; try with_reducible exact True.intro
          have e1 : (rd (rdR a i) 0 < rd (rdR b i) 0) ↔ cmpF a b < 0 := by omega
          show V.b (decide (rd (rdR a i) 0 < rd (rdR b i) 0)) = _
          simp only [e1]
        · replace h3 : rd (rdR a i) 0 = rd (rdR b i) 0 := h3
          refine stp ?_; try with_reducible exact True.intro
          exact ⟨1, (fitK [] []), ⟨by omega, fun _ => h3, fun h => by omega⟩, by first | ((try dsimp only); omega) | (simp; omega)⟩
      · refine stp ?_; try with_reducible exact True.intro
        refine Br.mk (fun h3 => ?_) (fun h3 => ?_) <;> simp only [decide_eq_true_eq, decide_eq_false_iff_not, ne_eq, Decidable.not_not, Bool.not_eq_eq_eq_not, Bool.not_true, Bool.not_false] at h3
        · replace h3 : ¬ rd (rdR a i) 1 = rd (rdR b i) 1 := h3
          rw [if_neg (fun c => c (hj1 (by omega))), if_pos h3] at hc
          refine stp ?_; try with_reducible exact True.intro
          have e1 : (rd (rdR a i) 1 < rd (rdR b i) 1) ↔ cmpF a b < 0 := by omega
          show V.b (decide (rd (rdR a i) 1 < rd (rdR b i) 1)) = _
          simp only [e1]
        · replace h3 : rd (rdR a i) 1 = rd (rdR b i) 1 := h3
          refine stp ?_; try with_reducible exact True.intro
          exact ⟨2, (fitK [] []), ⟨by omega, fun _ => hj1 (by omega), fun _ => h3⟩, by first | ((try dsimp only); omega) | (simp; omega)⟩
    · obtain rfl : j = 2 := by omega
      rw [if_neg (fun c => c (hj1 (by omega))), if_neg (fun c => c (hj2 (by omega)))] at hc
      refine stp ?_; try with_reducible exact True.intro
      exact ⟨i + 1, (fitK [] []), ⟨h1, hc⟩, by first | ((try dsimp only); omega) | (simp; omega)⟩
  · obtain rfl : i = a.length := by omega
    refine stp ?_; try with_reducible exact True.intro
    rw [List.drop_of_length_le (Nat.le_refl _), cmpF] at hc
    · rw [← hc]; rfl
    · intro e a' f b' h; cases h
theorem compareRows (a b : List (List Int)) (hl : a.length ≤ 9) (hab : b.length = a.length) (ha : Small a) (hb : Small b) : ConS Try.prog 72 [.ill a, .ill b] (.i (cmpF a b)) := by
  refine conS_of hmix hTab Try.func72 rfl rfl (by kernel_rfl) (by show 2 ≤ Try.f72.ntmps; decide) rfl ?_
  refine stp ?_; try with_reducible exact True.intro
  refine ⟨Nat, fun i => i ≤ a.length ∧ cmpF (a.drop i) (b.drop i) = cmpF a b, fun i => a.length - i, fun i => [(0, .ill a), (1, .ill b), (8, .i a.length), (9, .i i)], fun i => [], ⟨0, (fitK [] []), by simp⟩, fun i ⟨hi, hc⟩ => ?_⟩
  dsimp only at hi hc ⊢
  refine stp ?_; try with_reducible exact True.intro
  refine Br.mk (fun h1 => ?_) (fun h1 => ?_) <;> simp [-Int.ofNat_toNat] at h1
  · rw [drop_consR h1, drop_consR (by omega : i < b.length), cmpF] at hc
    obtain ⟨a0, a1, a2⟩ := ha i h1
    obtain ⟨b0, b1, b2⟩ := hb i (by omega)
    refine stp ?_; try with_reducible exact True.intro
    refine ⟨Nat, fun j => j ≤ 2 ∧ (1 ≤ j → rd (rdR a i) 0 = rd (rdR b i) 0) ∧ (2 ≤ j → rd (rdR a i) 1 = rd (rdR b i) 1), fun j => 2 - j, fun j => [(0, .ill a), (1, .ill b), (5, .i i), (8, .i a.length), (9, .i i), (16, .i (rdR a i).length), (17, .i j)], fun j => [], ⟨0, (fitK [] []), by simp⟩, fun j ⟨hj, hj1, hj2⟩ => ?_⟩
    dsimp only at hj hj1 hj2 ⊢
    have qa : List.length (rdT (.list (.int .i64)) a (i : Int)) = 2 := a0
    have qb : List.length (rdT (.list (.int .i64)) b (i : Int)) = 2 := b0
    have xa0 : @Eq Int (rdT (.int .i64) (rdT (.list (.int .i64)) a (i : Int)) ((0 : Nat) : Int)) (rd (rdR a i) 0) := rfl
    have xb0 : @Eq Int (rdT (.int .i64) (rdT (.list (.int .i64)) b (i : Int)) ((0 : Nat) : Int)) (rd (rdR b i) 0) := rfl
    have xa1 : @Eq Int (rdT (.int .i64) (rdT (.list (.int .i64)) a (i : Int)) ((1 : Nat) : Int)) (rd (rdR a i) 1) := rfl
    have xb1 : @Eq Int (rdT (.int .i64) (rdT (.list (.int .i64)) b (i : Int)) ((1 : Nat) : Int)) (rd (rdR b i) 1) := rfl
    refine stp ?_; try with_reducible exact True.intro
    refine Br.mk (fun h2 => ?_) (fun h2 => ?_) <;> simp only [decide_eq_true_eq, decide_eq_false_iff_not, ne_eq, Decidable.not_not, Bool.not_eq_eq_eq_not, Bool.not_true, Bool.not_false] at h2
    · obtain rfl | rfl : j = 0 ∨ j = 1 := by omega
      · refine stp ?_; try with_reducible exact True.intro
        refine Br.mk (fun h3 => ?_) (fun h3 => ?_) <;> simp only [decide_eq_true_eq, decide_eq_false_iff_not, ne_eq, Decidable.not_not, Bool.not_eq_eq_eq_not, Bool.not_true, Bool.not_false] at h3
        · replace h3 : ¬ rd (rdR a i) 0 = rd (rdR b i) 0 := h3
          rw [if_pos h3] at hc
          refine stp ?_; try with_reducible exact True.intro
          rw [← hc]
          rfl
        · replace h3 : rd (rdR a i) 0 = rd (rdR b i) 0 := h3
          refine stp ?_; try with_reducible exact True.intro
          exact ⟨1, (fitK [] []), ⟨by omega, fun _ => h3, fun h => by omega⟩, by first | ((try dsimp only); omega) | (simp; omega)⟩
      · refine stp ?_; try with_reducible exact True.intro
        refine Br.mk (fun h3 => ?_) (fun h3 => ?_) <;> simp only [decide_eq_true_eq, decide_eq_false_iff_not, ne_eq, Decidable.not_not, Bool.not_eq_eq_eq_not, Bool.not_true, Bool.not_false] at h3
        · replace h3 : ¬ rd (rdR a i) 1 = rd (rdR b i) 1 := h3
          rw [if_neg (fun c => c (hj1 (by omega))), if_pos h3] at hc
          refine stp ?_; try with_reducible exact True.intro
          rw [← hc]
          rfl
        · replace h3 : rd (rdR a i) 1 = rd (rdR b i) 1 := h3
          refine stp ?_; try with_reducible exact True.intro
          exact ⟨2, (fitK [] []), ⟨by omega, fun _ => hj1 (by omega), fun _ => h3⟩, by first | ((try dsimp only); omega) | (simp; omega)⟩
    · obtain rfl : j = 2 := by omega
      rw [if_neg (fun c => c (hj1 (by omega))), if_neg (fun c => c (hj2 (by omega)))] at hc
      refine stp ?_; try with_reducible exact True.intro
      exact ⟨i + 1, (fitK [] []), ⟨h1, hc⟩, by first | ((try dsimp only); omega) | (simp; omega)⟩
  · obtain rfl : i = a.length := by omega
    refine stp ?_; try with_reducible exact True.intro
    rw [List.drop_of_length_le (Nat.le_refl _), cmpF] at hc
    · rw [← hc]
    · intro e a' f b' h; cases h
end Go.Proofs.YtlglchbkenaekaaTv
end
section
open Go Go.Proofs.YtlglchbkenaekaaVe Go.Proofs.YtlglchbkenaekaaTv Go.Proofs
namespace Go.Proofs.YtlglchbkenaekaaTv
set_option maxRecDepth 8000
set_option maxHeartbeats 2000000
def insK (k : Int) (p : List Int) (j : Nat) : List Int := p.take j ++ [k] ++ p.drop j
def rowK (k : Int) (p : List Int) (j : Nat) : List (List Int) := (List.range j).map (insK k p)
def allK (k : Int) (out : List (List Int)) (i : Nat) : List (List Int) := (out.take i).flatMap fun p => rowK k p (p.length + 1)
/-- All orders of 0, .., n - 1. -/
def allP : Nat → List (List Int)
  | 0 => [[]]
  | k + 1 => allK k (allP k) (allP k).length
theorem rowK_succ (k : Int) (p : List Int) (j : Nat) : rowK k p (j + 1) = rowK k p j ++ [insK k p j] := by simp [rowK, List.range_succ]
theorem allK_succ {k : Int} {out : List (List Int)} {i : Nat} (h : i < out.length) : allK k out (i + 1) = allK k out i ++ rowK k (rdR out i) ((rdR out i).length + 1) := by
  unfold allK
  rw [take_succR h, List.flatMap_append]
  simp
theorem allK_len {k : Int} {n : Nat} {out : List (List Int)} (h : ∀ r ∈ out, r.length = n) : ∀ i, i ≤ out.length → (allK k out i).length = i * (n + 1)
  | 0, _ => by simp [allK]
  | i + 1, hi => by
    rw [allK_succ (show i < out.length from hi), List.length_append, allK_len h i (by omega)]
    have : (rdR out i).length = n := h _ (by simp [rdR, show i < out.length from hi])
    rw [this]
    simp [rowK, Nat.succ_mul]
theorem allP_facts : ∀ n, (∀ r ∈ allP n, r.length = n) ∧ (n ≤ 6 → (allP n).length ≤ 720 ∧ 1 ≤ (allP n).length)
  | 0 => by simp [allP]
  | n + 1 => by
    obtain ⟨h1, h2⟩ := allP_facts n
    refine ⟨fun r hr => ?_, fun h => ?_⟩
    · simp only [allP, allK, List.mem_flatMap, rowK, List.mem_map] at hr
      obtain ⟨p, hp, j, hj, rfl⟩ := hr
      have := h1 p (List.mem_of_mem_take hp)
      simp only [List.mem_range] at hj
      simp [insK]; omega
    · have key : ∀ m, m ≤ 6 → (allP m).length ≤ 720 ∧ 1 ≤ (allP m).length := by decide +kernel
      exact key _ h
theorem l9All (n : Nat) (hn : n ≤ 6) : ConT Try.prog 100 [.i n] (.own 0 0 (allP n).length) [.arr (.list (.int .i64)) (allP n) true] := by
  refine conT_of hmix hTab Try.func100 rfl rfl (by kernel_rfl) (by show 1 ≤ Try.f100.ntmps; decide) ?_
  refine stp ?_; try with_reducible exact True.intro
  refine Or.inl ⟨_, rfl, rfl, by first | rfl | (simp; done) | (simp; omega), ?_⟩; refine stp ?_; try with_reducible exact True.intro
  refine ⟨Nat, fun k => k ≤ n, fun k => n - k, fun k => [(0, .i n), (3, .own 0 0 (allP k).length), (4, .i k)], fun k => [.arr (.list (.int .i64)) (allP k) true], ⟨0, (fitK [] [1]), Nat.zero_le _⟩, fun k hk => ?_⟩
  dsimp only at hk ⊢
  obtain ⟨hr, hle⟩ := allP_facts k
  obtain ⟨hle1, hle2⟩ := hle (by omega)
  have hP : allP (k + 1) = allK k (allP k) (allP k).length := rfl
  generalize hout : allP k = out at *
  refine stp ?_; try with_reducible exact True.intro
  refine Br.mk (fun h => ?_) (fun h => ?_) <;> simp [-Int.ofNat_toNat] at h
  · refine stp ?_; try with_reducible exact True.intro
    refine Or.inl ?_; refine stp ?_; try with_reducible exact True.intro
    refine ⟨Nat, fun i => i ≤ out.length, fun i => out.length - i, fun i => [(0, .i n), (3, .own 0 0 out.length), (4, .i k), (5, .own 1 0 (allK k out i).length), (6, .i i)], fun i => [.arr (.list (.int .i64)) out true, .arr (.list (.int .i64)) (allK k out i) true], ⟨0, (fitK [] [0, 1]), Nat.zero_le _⟩, fun i hi => ?_⟩
    dsimp only at hi ⊢
    have hal := allK_len (k := k) hr i hi
    have hal2 : i * (k + 1) ≤ 720 * 7 := Nat.mul_le_mul (by omega) (by omega)
    refine stp ?_; try with_reducible exact True.intro
    refine Br.mk (fun h2 => ?_) (fun h2 => ?_) <;> simp [-Int.ofNat_toNat] at h2
    · have hsu := allK_succ (k := k) h2
      have hpl : (rdR out i).length = k := hr _ (by simp [rdR, h2])
      rw [hpl] at hsu
      refine stp ?_; try with_reducible exact True.intro
      refine ⟨Nat, fun j => j ≤ k + 1, fun j => k + 1 - j, fun j => [(0, .i n), (3, .own 0 0 out.length), (4, .i k), (5, .own 1 0 (allK k out i ++ rowK k (rdR out i) j).length), (6, .i i), (7, .i j)], fun j => [.arr (.list (.int .i64)) out true, .arr (.list (.int .i64)) (allK k out i ++ rowK k (rdR out i) j) true], ⟨0, ?_, Nat.zero_le _⟩, fun j hj => ?_⟩
      · dsimp only
        rw [show rowK k (rdR out i) 0 = [] from rfl, List.append_nil]
        exact (fitK [] [0, 1])
      dsimp only at hj ⊢
      have hsj := rowK_succ k (rdR out i) j
      have hrk : (rowK k (rdR out i) j).length = j := by simp [rowK]
      have hg : out.getD (i : Int).toNat [] = rdR out i := rfl
      have hset : out.set (i : Int).toNat (rdR out i) = out := set_self rfl
      have hlen2 : (allK k out i ++ rowK k (rdR out i) j).length ≤ 6000 := by simp [rowK]; omega
      refine stp ?_; try with_reducible exact True.intro
      refine .inr ⟨by first | rfl | trivial, by omega, ⟨fun he => ?_, ?_⟩⟩
      · have hp0 : rdR out i = [] := he
        have hk0 : k = 0 := by rw [← hpl, hp0]; rfl
        refine stp ?_; try with_reducible exact True.intro
        refine Br.mk (fun h3 => ?_) (fun h3 => ?_) <;> simp only [decide_eq_true_eq, decide_eq_false_iff_not, ne_eq, Decidable.not_not, Bool.not_eq_eq_eq_not, Bool.not_true, Bool.not_false] at h3
        · obtain rfl : j = 0 := by omega
          refine stp ?_; try with_reducible exact True.intro
          refine .inl ⟨rfl, ?_⟩
          refine stp ?_; try with_reducible exact True.intro
          refine .inl ⟨rfl, ?_⟩
          refine stp ?_; try with_reducible exact True.intro
          refine Or.inl ⟨_, rfl, rfl, by first | rfl | (simp; done) | (simp; omega), ?_⟩; refine stp ?_; try with_reducible exact True.intro
          refine Or.inl ⟨_, _, rfl, rfl, by decide, rfl, by first | rfl | omega | (simp; done) | (simp; omega), rfl, by first | rfl | omega | (simp; done) | (simp; omega), by first | omega | (simp; omega), ?_⟩; refine stp ?_; try with_reducible exact True.intro
          refine ⟨0 + 1, ⟨.jn 0 ⟨trivial, rfl⟩ (.frz []), [0, 11], ⟨rfl, rfl, rfl, ?_, rfl, rfl, trivial⟩, ⟨?_, ?_, trivial⟩, by decide, rfl, rfl, rfl⟩, by first | ((try dsimp only); omega) | (simp; omega), by first | ((try dsimp only); omega) | (simp; omega)⟩
          · rw [hsj]; simp [V.ren, EnvV.ev, EnvV.upd]; omega
          · show some (Obj.arr (.list (.int .i64)) (out.set (i : Int).toNat []) true) = _
            rw [← hp0, hset]
            rfl
          · rw [hsj, ← List.append_assoc, hp0]
            refine congrArg (fun x => some (Obj.arr (.list (.int .i64)) (allK k out i ++ rowK k [] 0 ++ [x]) true)) ?_
            simp [insK]
        · obtain rfl : j = k + 1 := by omega
          refine stp ?_; try with_reducible exact True.intro
          refine ⟨i + 1, ⟨.jn 0 ⟨trivial, rfl⟩ (.frz []), [0, 1], ⟨rfl, rfl, rfl, by rw [hsu]; rfl, rfl, trivial⟩, ⟨?_, by rw [hsu]; rfl, trivial⟩, by decide, rfl, rfl, rfl⟩, by first | ((try dsimp only); omega) | (simp; omega), by first | ((try dsimp only); omega) | (simp; omega)⟩
          show some (Obj.arr (.list (.int .i64)) (out.set (i : Int).toNat []) true) = _
          rw [← hp0, hset]
          rfl
      · simp only [hg]
        refine stp ?_; try with_reducible exact True.intro
        refine Br.mk (fun h3 => ?_) (fun h3 => ?_) <;> simp only [decide_eq_true_eq, decide_eq_false_iff_not, ne_eq, Decidable.not_not, Bool.not_eq_eq_eq_not, Bool.not_true, Bool.not_false] at h3
        · refine stp ?_; try with_reducible exact True.intro
          refine .inl ⟨rfl, ?_⟩
          refine stp ?_; try with_reducible exact True.intro
          refine .inl ⟨rfl, ?_⟩
          refine stp ?_; try with_reducible exact True.intro
          refine Or.inl ⟨_, rfl, rfl, by first | rfl | (simp; done) | (simp; omega), ?_⟩; refine stp ?_; try with_reducible exact True.intro
          refine Or.inl ⟨_, _, rfl, rfl, by decide, rfl, by first | rfl | omega | (simp; done) | (simp; omega), rfl, by first | rfl | omega | (simp; done) | (simp; omega), by first | omega | (simp; omega), ?_⟩; refine stp ?_; try with_reducible exact True.intro
          refine ⟨j + 1, ⟨.jn 0 ⟨Nat.zero_le _, _, rfl, rfl, by simp, by simp, rfl⟩ (.frz []), [0, 11], ⟨rfl, rfl, rfl, ?_, rfl, rfl, trivial⟩, ⟨?_, ?_, trivial⟩, by decide, rfl, rfl, rfl⟩, by first | ((try dsimp only); omega) | (simp; omega), by first | ((try dsimp only); omega) | (simp; omega)⟩
          · rw [hsj]; simp [V.ren, EnvV.ev, EnvV.upd]; omega
          · show some (Obj.arr (.list (.int .i64)) (out.set (i : Int).toNat (rdR out i)) true) = _
            rw [hset]
            rfl
          · rw [hsj, ← List.append_assoc]
            refine congrArg (fun x => some (Obj.arr (.list (.int .i64)) (allK k out i ++ rowK k (rdR out i) j ++ [x]) true)) ?_
            simp [insK, List.take_of_length_le]
        · obtain rfl : j = k + 1 := by omega
          refine stp ?_; try with_reducible exact True.intro
          refine ⟨i + 1, ⟨.jn 0 ⟨Nat.zero_le _, _, rfl, rfl, by simp, by simp, rfl⟩ (.frz []), [0, 1], ⟨rfl, rfl, rfl, by rw [hsu]; rfl, rfl, trivial⟩, ⟨?_, by rw [hsu]; rfl, trivial⟩, by decide, rfl, rfl, rfl⟩, by first | ((try dsimp only); omega) | (simp; omega), by first | ((try dsimp only); omega) | (simp; omega)⟩
          show some (Obj.arr (.list (.int .i64)) (out.set (i : Int).toNat (rdR out i)) true) = _
          rw [hset]
          rfl
    · obtain rfl : i = out.length := by omega
      refine stp ?_; try with_reducible exact True.intro
      refine ⟨k + 1, ⟨.frz [], [1], ⟨rfl, by rw [hP]; rfl, rfl, trivial⟩, ⟨by rw [hP]; rfl, trivial⟩, by decide, rfl, rfl, rfl⟩, by first | ((try dsimp only); omega) | (simp; omega), by first | ((try dsimp only); omega) | (simp; omega)⟩
  · obtain rfl : k = n := by omega
    rw [hout]
    refine stp ?_; try with_reducible exact True.intro
    exact (fitK [] [0])
end Go.Proofs.YtlglchbkenaekaaTv
end
section
open Go Go.Proofs.YtlglchbkenaekaaVe Go.Proofs.YtlglchbkenaekaaTv Go.Proofs
namespace Go.Proofs.YtlglchbkenaekaaTv
set_option maxRecDepth 8000
set_option maxHeartbeats 2000000
theorem insEq {out : List (List Int)} {own : List Int} {k : Nat} (hk : k + 1 ≤ out.length) : List.take (k + 1 + 1) (List.take (k + 1) out ++ [own]) ++ List.take (min ((out.length : Int) - ((k : Int) + 1)).toNat (out.length - (k + 1))) (List.take ((out.length : Int) - ((k : Int) + 1)).toNat (List.drop (k + 1) out)) = List.take (k + 1) out ++ own :: List.drop (k + 1) out := by
  have e : ((out.length : Int) - ((k : Int) + 1)).toNat = out.length - (k + 1) := by omega
  rw [e, Nat.min_self, List.take_take, Nat.min_self, List.take_of_length_le (l := List.take (k + 1) out ++ [own]) (by simp; omega), List.take_of_length_le (l := List.drop (k + 1) out) (by simp), List.append_assoc]
  rfl
theorem l19Sorted (ll : List (List Int)) (names : List Int) (hl : ll.length ≤ 9) (hr : ∀ j : Nat, j < ll.length → (rdR ll j).length = 2 ∧ (0 ≤ rd (rdR ll j) 0 ∧ rd (rdR ll j) 0 < names.length) ∧ (0 ≤ rd (rdR ll j) 1 ∧ rd (rdR ll j) 1 < names.length)) : ConT Try.prog 101 [.ill ll, .il names] (.own 0 0 ll.length) [.arr (.list (.int .i64)) (renF ll names ll.length) false] := by
  refine conT_of hmix hTab Try.func101 rfl rfl (by kernel_rfl) (by show 2 ≤ Try.f101.ntmps; decide) ?_
  have hlast := (renF_facts (names := names) ll.length (Nat.le_refl _)).1
  refine stp ?_; try with_reducible exact True.intro
  refine Or.inr ?_; refine stp ?_; try with_reducible exact True.intro
  refine ⟨Nat, fun i => i ≤ ll.length, fun i => ll.length - i, fun i => [(0, .ill ll), (1, .il names), (5, .own 0 0 (renF ll names i).length), (6, .i i)], fun i => [.arr (.list (.int .i64)) (renF ll names i) false], ⟨0, (fitK [] [0]), Nat.zero_le _⟩, fun i hi => ?_⟩
  dsimp only at hi ⊢
  obtain ⟨hol, hor⟩ := renF_facts (names := names) i hi
  refine stp ?_; try with_reducible exact True.intro
  refine Br.mk (fun h => ?_) (fun h => ?_) <;> simp [-Int.ofNat_toNat] at h
  · obtain ⟨hr1, hr2, hr3⟩ := hr i h
    have hs := renF_succ (names := names) h
    have ql : List.length (rdT (.list (.int .i64)) ll (i : Int)) = (rdR ll i).length := rfl; have q0 : @Eq Int (rdT (.int .i64) (rdT (.list (.int .i64)) ll (i : Int)) 0) (rd (rdR ll i) 0) := rfl; have q1 : @Eq Int (rdT (.int .i64) (rdT (.list (.int .i64)) ll (i : Int)) 1) (rd (rdR ll i) 1) := rfl; have qlo : List.length (rdT (.list (.int .i64)) ll (((i : Int).toNat : Nat) : Int)) = (rdR ll i).length := rfl; have q0o : @Eq Int (rdT (.int .i64) (rdT (.list (.int .i64)) ll (((i : Int).toNat : Nat) : Int)) 0) (rd (rdR ll i) 0) := rfl; have q1o : @Eq Int (rdT (.int .i64) (rdT (.list (.int .i64)) ll (((i : Int).toNat : Nat) : Int)) 1) (rd (rdR ll i) 1) := rfl
    generalize hout : renF ll names i = out at *
    refine stp ?_; try with_reducible exact True.intro
    refine useT ((l1Min (rd names (rd (rdR ll i) 0)) (rd names (rd (rdR ll i) 1))).toT) ?_; try with_reducible exact True.intro
    refine useT ((l1Max (rd names (rd (rdR ll i) 0)) (rd names (rd (rdR ll i) 1))).toT) ?_; try with_reducible exact True.intro
    have hown : [min (rd names (rd (rdR ll i) 0)) (rd names (rd (rdR ll i) 1)), max (rd names (rd (rdR ll i) 0)) (rd names (rd (rdR ll i) 1))] = pairN names (rdR ll i) := rfl
    simp only [hown]
    have hownl : (pairN names (rdR ll i)).length = 2 := rfl
    generalize pairN names (rdR ll i) = own at *
    refine ⟨Nat, fun k => k ≤ out.length ∧ posP out own out.length = posP out own k, fun k => k, fun k => [(0, .ill ll), (1, .il names), (5, .own 0 0 out.length), (6, .i i), (9, .own 1 0 own.length), (10, .i k)], fun k => [.arr (.list (.int .i64)) out false, .arr (.int .i64) own true], ⟨out.length, (fitK [] [0, 1]), Nat.le_refl _, rfl⟩, fun k ⟨hk, hpos⟩ => ?_⟩
    dsimp only at hk hpos ⊢
    cases k with
    | zero =>
      have hins : insP out own = out.take 0 ++ own :: out.drop 0 := by unfold insP; rw [hpos]; rfl
      refine stp ?_; try with_reducible exact True.intro
      refine Or.inr ?_
      refine stp ?_; try with_reducible exact True.intro
      refine Or.inr ?_
      refine stp ?_; try with_reducible exact True.intro
      refine Or.inr ?_
      refine stp ?_; try with_reducible exact True.intro
      refine Or.inr ?_
      refine stp ?_; try with_reducible exact True.intro
      refine Or.inr ?_
      refine stp ?_; try with_reducible exact True.intro
      refine ⟨i + 1, ⟨.frz [], [6], ⟨rfl, rfl, ?_, rfl, trivial⟩, ⟨?_, trivial⟩, by decide, rfl, rfl, rfl⟩, by first | ((try dsimp only); omega) | (simp; omega), by first | ((try dsimp only); omega) | (simp; omega)⟩
      · show V.own 6 0 _ = V.own 6 0 _
        rw [hs, insP_length]
        congr 1
        first | (simp; done) | (simp; omega)
      · rw [hs, hins]
        refine congrArg (fun x => some (Obj.arr (.list (.int .i64)) x false)) ?_
        simp
    | succ k =>
      rw [posP] at hpos
      have hrow2 : (rdR out k).length = 2 := hor _ (by simp [rdR, show k < out.length by omega])
      have hg : rdT (.list (.int .i64)) out (((k + 1 : Nat) : Int) - 1) = rdR out k := by
        show out.getD (((k + 1 : Nat) : Int) - 1).toNat [] = rdR out k
        rw [show (((k + 1 : Nat) : Int) - 1).toNat = k by omega]; rfl
      have hg2 : rdT (.list (.int .i64)) out ((Int.toNat (((k + 1 : Nat) : Int) - 1) : Nat) : Int) = rdR out k := by
        show out.getD (((Int.toNat (((k + 1 : Nat) : Int) - 1) : Nat) : Int)).toNat [] = rdR out k
        rw [show (((Int.toNat (((k + 1 : Nat) : Int) - 1) : Nat) : Int)).toNat = k by omega]; rfl
      have hl2 : List.length (rdT (.list (.int .i64)) out (((k + 1 : Nat) : Int) - 1)) = 2 := by rw [hg]; exact hrow2
      have hl3 : List.length (rdT (.list (.int .i64)) out ((Int.toNat (((k + 1 : Nat) : Int) - 1) : Nat) : Int)) = 2 := by rw [hg2]; exact hrow2
      have hins : k + 1 = posP out own out.length → insP out own = out.take (k + 1) ++ own :: out.drop (k + 1) := fun e => by unfold insP; rw [← e]
      refine stp ?_; try with_reducible exact True.intro
      refine brT (decide_eq_true (by omega)) ?_
      refine stp ?_; try with_reducible exact True.intro
      refine Br.mk (fun c1 => ?_) (fun c1 => ?_) <;> simp only [decide_eq_true_eq, decide_eq_false_iff_not, ne_eq, Decidable.not_not, Bool.not_eq_eq_eq_not, Bool.not_true, Bool.not_false] at c1
      · replace c1 : rd own 0 < rd (rdR out k) 0 := by rw [← hg2]; exact c1
        rw [if_pos (by simp [gtP, c1])] at hpos
        refine stp ?_; try with_reducible exact True.intro
        refine ⟨k, ⟨.frz [], [0, 1], ⟨rfl, rfl, rfl, rfl, rfl, ?_, trivial⟩, ⟨rfl, rfl, trivial⟩, by decide, rfl, rfl, rfl⟩, ⟨by omega, hpos⟩, by first | ((try dsimp only); omega) | (simp; omega)⟩
        show V.i (((k + 1 : Nat) : Int) - 1) = V.i (k : Int)
        rw [show ((k + 1 : Nat) : Int) - 1 = (k : Int) by omega]
      · replace c1 : ¬ rd own 0 < rd (rdR out k) 0 := by rw [← hg2]; exact c1
        refine stp ?_; try with_reducible exact True.intro
        refine Br.mk (fun c2 => ?_) (fun c2 => ?_) <;> simp only [decide_eq_true_eq, decide_eq_false_iff_not, ne_eq, Decidable.not_not, Bool.not_eq_eq_eq_not, Bool.not_true, Bool.not_false] at c2
        · replace c2 : rd (rdR out k) 0 = rd own 0 := by rw [← hg2]; exact c2
          refine stp ?_; try with_reducible exact True.intro
          refine Br.mk (fun c3 => ?_) (fun c3 => ?_) <;> simp only [decide_eq_true_eq, decide_eq_false_iff_not, ne_eq, Decidable.not_not, Bool.not_eq_eq_eq_not, Bool.not_true, Bool.not_false] at c3
          · replace c3 : rd own 1 < rd (rdR out k) 1 := by rw [← hg2]; exact c3
            rw [if_pos (by simp [gtP, c2, c3])] at hpos
            refine stp ?_; try with_reducible exact True.intro
            refine ⟨k, ⟨.frz [], [0, 1], ⟨rfl, rfl, rfl, rfl, rfl, ?_, trivial⟩, ⟨rfl, rfl, trivial⟩, by decide, rfl, rfl, rfl⟩, ⟨by omega, hpos⟩, by first | ((try dsimp only); omega) | (simp; omega)⟩
            show V.i (((k + 1 : Nat) : Int) - 1) = V.i (k : Int)
            rw [show ((k + 1 : Nat) : Int) - 1 = (k : Int) by omega]
          · replace c3 : ¬ rd own 1 < rd (rdR out k) 1 := by rw [← hg2]; exact c3
            rw [if_neg (by simp [gtP, c2]; omega)] at hpos
            refine stp ?_; try with_reducible exact True.intro
            refine Or.inr ?_
            refine stp ?_; try with_reducible exact True.intro
            refine Or.inr ?_
            refine stp ?_; try with_reducible exact True.intro
            refine Or.inr ?_
            refine stp ?_; try with_reducible exact True.intro
            refine Or.inr ?_
            refine stp ?_; try with_reducible exact True.intro
            refine Or.inr ?_
            refine stp ?_; try with_reducible exact True.intro
            refine ⟨i + 1, ⟨.frz [], [6], ⟨rfl, rfl, ?_, rfl, trivial⟩, ⟨?_, trivial⟩, by decide, rfl, rfl, rfl⟩, by first | ((try dsimp only); omega) | (simp; omega), by first | ((try dsimp only); omega) | (simp; omega)⟩
            · show V.own 6 0 _ = V.own 6 0 _
              rw [hs, insP_length]
              congr 1
              first | (simp; done) | (simp; omega)
            · rw [hs, hins (hpos.symm)]
              refine congrArg (fun x => some (Obj.arr (.list (.int .i64)) x false)) ?_
              have e1 : ((k + 1 : Nat) : Int).toNat = k + 1 := by omega
              simp
              exact insEq hk
        · replace c2 : ¬ rd (rdR out k) 0 = rd own 0 := by rw [← hg2]; exact c2
          rw [if_neg (by simp [gtP, c2]; omega)] at hpos
          refine stp ?_; try with_reducible exact True.intro
          refine Or.inr ?_
          refine stp ?_; try with_reducible exact True.intro
          refine Or.inr ?_
          refine stp ?_; try with_reducible exact True.intro
          refine Or.inr ?_
          refine stp ?_; try with_reducible exact True.intro
          refine Or.inr ?_
          refine stp ?_; try with_reducible exact True.intro
          refine Or.inr ?_
          refine stp ?_; try with_reducible exact True.intro
          refine ⟨i + 1, ⟨.frz [], [6], ⟨rfl, rfl, ?_, rfl, trivial⟩, ⟨?_, trivial⟩, by decide, rfl, rfl, rfl⟩, by first | ((try dsimp only); omega) | (simp; omega), by first | ((try dsimp only); omega) | (simp; omega)⟩
          · show V.own 6 0 _ = V.own 6 0 _
            rw [hs, insP_length]
            congr 1
            first | (simp; done) | (simp; omega)
          · rw [hs, hins (hpos.symm)]
            refine congrArg (fun x => some (Obj.arr (.list (.int .i64)) x false)) ?_
            have e1 : ((k + 1 : Nat) : Int).toNat = k + 1 := by omega
            simp
            exact insEq hk
  · obtain rfl : i = ll.length := by omega
    rw [hol]
    refine stp ?_; try with_reducible exact True.intro
    exact (fitK [] [0])
end Go.Proofs.YtlglchbkenaekaaTv
end
section
open Go Go.Proofs.YtlglchbkenaekaaVe Go.Proofs.YtlglchbkenaekaaTv Go.Proofs
namespace Go.Proofs.YtlglchbkenaekaaTv
set_option maxRecDepth 8000
set_option maxHeartbeats 2000000
def idP (n : Nat) : List Int := (List.range n).map fun (j : Nat) => (j : Int)
theorem insK_perm (k : Int) (p : List Int) (j : Nat) : (insK k p j).Perm (k :: p) := by
  unfold insK
  rw [List.append_assoc]
  exact (List.perm_middle (a := k) (l₁ := p.take j) (l₂ := p.drop j)).trans (by rw [List.take_append_drop])
theorem allP_perm : ∀ n, ∀ r ∈ allP n, r.Perm (idP n)
  | 0, r, hr => by
    simp [allP] at hr
    subst hr
    exact List.Perm.refl _
  | n + 1, r, hr => by
    simp only [allP, allK, List.mem_flatMap, rowK, List.mem_map] at hr
    obtain ⟨p, hp, j, hj, rfl⟩ := hr
    have h := allP_perm n p (List.mem_of_mem_take hp)
    refine (insK_perm _ _ _).trans ((h.cons _).trans ?_)
    have e : idP (n + 1) = idP n ++ [(n : Int)] := by simp [idP, List.range_succ]
    rw [e]
    exact (List.perm_append_singleton _ _).symm
theorem rd_memP {l : List Int} {x : Int} (h0 : 0 ≤ x) (h1 : x < l.length) : rd l x ∈ l := by
  have : x.toNat < l.length := by omega
  simp [rd, this]
theorem allP_entry {n : Nat} {r : List Int} (h : r ∈ allP n) : r.length = n ∧ ∀ x ∈ r, 0 ≤ x ∧ x < n := by
  refine ⟨(allP_facts n).1 r h, fun x hx => ?_⟩
  have := (allP_perm n r h).mem_iff.1 hx
  simp only [idP, List.mem_map, List.mem_range] at this
  obtain ⟨j, hj, rfl⟩ := this
  omega
theorem insP_mem {out : List (List Int)} {own r : List Int} (h : r ∈ insP out own) : r ∈ out ∨ r = own := by
  rcases List.mem_append.1 h with h | h
  · exact .inl (List.mem_of_mem_take h)
  · rcases List.mem_cons.1 h with rfl | h
    · exact .inr rfl
    · exact .inl (List.mem_of_mem_drop h)
theorem renF_small {ll : List (List Int)} {names : List Int} (hr : ∀ j : Nat, j < ll.length → (rdR ll j).length = 2 ∧ (0 ≤ rd (rdR ll j) 0 ∧ rd (rdR ll j) 0 < names.length) ∧ (0 ≤ rd (rdR ll j) 1 ∧ rd (rdR ll j) 1 < names.length)) (hn : ∀ x ∈ names, 0 ≤ x ∧ x ≤ 1000) : ∀ i, i ≤ ll.length → ∀ r ∈ renF ll names i, r.length = 2 ∧ (0 ≤ rd r 0 ∧ rd r 0 ≤ 1000) ∧ (0 ≤ rd r 1 ∧ rd r 1 ≤ 1000)
  | 0, _, r, h => by simp [renF] at h
  | i + 1, hi, r, h => by
    rw [renF_succ (show i < ll.length from hi)] at h
    rcases insP_mem h with h | rfl
    · exact renF_small hr hn i (by omega) r h
    · obtain ⟨h1, ⟨h2, h3⟩, h4, h5⟩ := hr i hi
      have k1 := hn _ (rd_memP h2 h3)
      have k2 := hn _ (rd_memP h4 h5)
      refine ⟨rfl, ?_, ?_⟩
      · show 0 ≤ min _ _ ∧ min _ _ ≤ (1000 : Int)
        omega
      · show 0 ≤ max _ _ ∧ max _ _ ≤ (1000 : Int)
        omega
theorem Small_renF {ll : List (List Int)} {names : List Int} (hr : ∀ j : Nat, j < ll.length → (rdR ll j).length = 2 ∧ (0 ≤ rd (rdR ll j) 0 ∧ rd (rdR ll j) 0 < names.length) ∧ (0 ≤ rd (rdR ll j) 1 ∧ rd (rdR ll j) 1 < names.length)) (hn : ∀ x ∈ names, 0 ≤ x ∧ x ≤ 1000) : Small (renF ll names ll.length) := fun j hj =>
  renF_small hr hn _ (Nat.le_refl _) _ (by simp [rdR, hj])
/-- The least of the forms. -/
def leastF (ll : List (List Int)) (ps : List (List Int)) (i : Nat) : List (List Int) := ((ps.take i).drop 1).foldl (fun b p => if cmpF (renF ll p ll.length) b < 0 then renF ll p ll.length else b) (renF ll (rdR ps 0) ll.length)
theorem leastF_succ {ll ps : List (List Int)} {i : Nat} (h : i < ps.length) (h1 : 1 ≤ i) : leastF ll ps (i + 1) = if cmpF (renF ll (rdR ps i) ll.length) (leastF ll ps i) < 0 then renF ll (rdR ps i) ll.length else leastF ll ps i := by
  unfold leastF
  rw [take_succR h, List.drop_append_of_le_length (by simp; omega), List.foldl_append]
  rfl
end Go.Proofs.YtlglchbkenaekaaTv
end
section
open Go Go.Proofs.YtlglchbkenaekaaVe Go.Proofs.YtlglchbkenaekaaTv Go.Proofs
namespace Go.Proofs.YtlglchbkenaekaaTv
set_option maxRecDepth 8000
set_option maxHeartbeats 2000000
theorem l19Least (g : Int) (n : Nat) (hg : 2 * g - 2 = n) (hn : n ≤ 6) (ll : List (List Int)) (hl : ll.length ≤ 9) (hr : ∀ j : Nat, j < ll.length → (rdR ll j).length = 2 ∧ (0 ≤ rd (rdR ll j) 0 ∧ rd (rdR ll j) 0 < n) ∧ (0 ≤ rd (rdR ll j) 1 ∧ rd (rdR ll j) 1 < n)) : ConT Try.prog 67 [.i g, .ill ll] (.own 0 0 ll.length) [.frz (.list (.int .i64)) (leastF ll (allP n) (allP n).length)] := by
  refine conT_of hmix hTab Try.func67 rfl rfl (by kernel_rfl) (by show 2 ≤ Try.f67.ntmps; decide) ?_
  obtain ⟨ha1, ha2⟩ := (allP_facts n).2 hn
  have hrow : ∀ i : Nat, i < (allP n).length → (rdR (allP n) i).length = n ∧ ∀ x ∈ rdR (allP n) i, 0 ≤ x ∧ x < n := fun i hi => allP_entry (by simp [rdR, hi])
  have hrr : ∀ i : Nat, i < (allP n).length → ∀ j : Nat, j < ll.length → (rdR ll j).length = 2 ∧ (0 ≤ rd (rdR ll j) 0 ∧ rd (rdR ll j) 0 < (rdR (allP n) i).length) ∧ (0 ≤ rd (rdR ll j) 1 ∧ rd (rdR ll j) 1 < (rdR (allP n) i).length) := fun i hi => by rw [(hrow i hi).1]; exact hr
  have hsm : ∀ i : Nat, i < (allP n).length → Small (renF ll (rdR (allP n) i) ll.length) := fun i hi => Small_renF (hrr i hi) fun x hx => by have := (hrow i hi).2 x hx; omega
  have hle : ∀ i : Nat, (renF ll (rdR (allP n) i) ll.length).length = ll.length := fun i => (renF_facts ll.length (Nat.le_refl _)).1
  have h1 : leastF ll (allP n) 1 = renF ll (rdR (allP n) 0) ll.length := by
    unfold leastF
    rw [show ((allP n).take 1).drop 1 = [] from List.drop_eq_nil_of_le (by simp; omega)]
    rfl
  have hbb : ∀ k : Nat, 1 ≤ k → k ≤ (allP n).length → (leastF ll (allP n) k).length = ll.length ∧ Small (leastF ll (allP n) k) := fun k => by
    induction k with
    | zero => intro h; omega
    | succ k ih =>
      intro _ h
      by_cases hk : 1 ≤ k
      · rw [leastF_succ h hk]
        split
        · exact ⟨hle k, hsm k h⟩
        · exact ih hk (by omega)
      · obtain rfl : k = 0 := by omega
        rw [Nat.zero_add, h1]
        exact ⟨hle 0, hsm 0 h⟩
  refine stp ?_; try with_reducible exact True.intro
  rw [hg]
  refine useT (l9All n hn) ?_; try with_reducible exact True.intro
  refine .inl ?_
  refine stp ?_; try with_reducible exact True.intro
  refine useT (l19Sorted ll (rdR (allP n) 0) hl (hrr 0 (by omega))) ?_; try with_reducible exact True.intro
  refine ⟨Nat, fun k => 1 ≤ k ∧ k ≤ (allP n).length, fun k => (allP n).length - k, fun k => [(1, .ill ll), (5, .own 0 0 (allP n).length), (6, .own 1 0 ll.length), (7, .i k)], fun k => [.frz (.list (.int .i64)) (allP n), .frz (.list (.int .i64)) (leastF ll (allP n) k)], ⟨1, ⟨.frz [1], [0, 1], ⟨rfl, rfl, rfl, rfl, trivial⟩, ⟨rfl, by rw [h1]; rfl, trivial⟩, by decide, rfl, rfl, rfl⟩, by omega⟩, fun k ⟨hk1, hk⟩ => ?_⟩
  dsimp only at hk1 hk ⊢
  refine stp ?_; try with_reducible exact True.intro
  refine Br.mk (fun h => ?_) (fun h => ?_) <;> simp [-Int.ofNat_toNat] at h
  · have hs := leastF_succ (ll := ll) h hk1
    have hb : (leastF ll (allP n) k).length = ll.length ∧ Small (leastF ll (allP n) k) := hbb k hk1 hk
    refine stp ?_; try with_reducible exact True.intro
    refine useT (l19Sorted ll (rdR (allP n) k) hl (hrr k h)) ?_; try with_reducible exact True.intro
    refine .inl ⟨_, _, _, (l19Less (renF ll (rdR (allP n) k) ll.length) (leastF ll (allP n) k) (by rw [hle]; exact hl) (by rw [hle]; exact hb.1) (hsm k h) hb.2).toT, ⟨⟨_, _, rfl, Nat.le_of_eq (by rw [hle]; exact Nat.zero_add _), List.take_of_length_le (Nat.le_of_eq (hle _))⟩, ⟨_, rfl, Nat.le_of_eq (by rw [hb.1]; exact Nat.zero_add _), List.take_of_length_le (Nat.le_of_eq hb.1)⟩, trivial⟩, ?_⟩; refine stp ?_; try with_reducible exact True.intro
    refine Br.mk (fun c1 => ?_) (fun c1 => ?_) <;> simp [-Int.ofNat_toNat] at c1
    · rw [if_pos c1] at hs
      refine stp ?_; try with_reducible exact True.intro
      exact ⟨k + 1, ⟨.frz [2], [0, 2], ⟨rfl, rfl, rfl, rfl, trivial⟩, ⟨rfl, by rw [hs]; rfl, trivial⟩, by decide, rfl, rfl, rfl⟩, by omega, by first | ((try dsimp only); omega) | (simp; omega)⟩
    · rw [if_neg (by omega)] at hs
      refine stp ?_; try with_reducible exact True.intro
      exact ⟨k + 1, ⟨.frz [], [0, 1], ⟨rfl, rfl, rfl, rfl, trivial⟩, ⟨rfl, by rw [hs]; rfl, trivial⟩, by decide, rfl, rfl, rfl⟩, by omega, by first | ((try dsimp only); omega) | (simp; omega)⟩
  · obtain rfl : k = (allP n).length := by omega
    refine stp ?_; try with_reducible exact True.intro
    exact ⟨.frz [], [1], ⟨rfl, trivial⟩, ⟨rfl, trivial⟩, by decide, rfl, rfl, rfl⟩
end Go.Proofs.YtlglchbkenaekaaTv
end
section
open Go Go.Proofs.YtlglchbkenaekaaVe Go.Proofs.YtlglchbkenaekaaTv Go.Proofs
namespace Go.Proofs.YtlglchbkenaekaaTv
set_option maxRecDepth 8000
set_option maxHeartbeats 2000000
theorem idP_succ (n : Nat) : idP (n + 1) = idP n ++ [(n : Int)] := by simp [idP, List.range_succ]
theorem idP_length (n : Nat) : (idP n).length = n := by simp [idP]
theorem identity (n : Nat) (hn : n ≤ 1000) : ConT Try.prog 69 [.i n] (.own 0 0 n) [.arr (.int .i64) (idP n) true] := by
  refine conT_of hmix hTab Try.func69 rfl rfl (by kernel_rfl) (by show 1 ≤ Try.f69.ntmps; decide) ?_
  refine stp ?_; try with_reducible exact True.intro
  refine ⟨Nat, fun i => i ≤ n, fun i => n - i, fun i => [(3, .own 0 0 (idP i).length), (6, .i n), (7, .i i)], fun i => [.arr (.int .i64) (idP i) true], ⟨0, (fitK [] [0]), Nat.zero_le _⟩, fun i hi => ?_⟩
  dsimp only at hi ⊢
  have hil := idP_length i
  have hs := idP_succ i
  refine stp ?_; try with_reducible exact True.intro
  refine Br.mk (fun h => ?_) (fun h => ?_) <;> simp [-Int.ofNat_toNat] at h
  · refine stp ?_; try with_reducible exact True.intro
    refine ⟨i + 1, ⟨.frz [], [2], ⟨?_, rfl, rfl, trivial⟩, ⟨?_, trivial⟩, by decide, rfl, rfl, rfl⟩, by first | ((try dsimp only); omega) | (simp; omega), by first | ((try dsimp only); omega) | (simp; omega)⟩
    · rw [hs, List.length_append]; rfl
    · rw [hs]
      refine congrArg (fun x => some (Obj.arr (.int .i64) x true)) ?_
      simp
  · obtain rfl : i = n := by omega
    simp only [hil]
    refine stp ?_; try with_reducible exact True.intro
    exact (fitK [] [0])
end Go.Proofs.YtlglchbkenaekaaTv
end
section
open Go Go.Proofs.YtlglchbkenaekaaVe Go.Proofs.YtlglchbkenaekaaTv Go.Proofs
namespace Go.Proofs.YtlglchbkenaekaaTv
set_option maxRecDepth 8000
set_option maxHeartbeats 2000000
theorem LeastPantsS {g : Int} {ll : List (List Int)} (hll : (ll.length : Int) ≤ 1048576) (h : isPants g ll = true) : ConT Try.prog 26 [.i g, .ill ll] (.own 0 0 ll.length) [.frz (.list (.int .i64)) (leastF ll (allP (2 * g - 2).toNat) (allP (2 * g - 2).toNat).length)] := by
  obtain ⟨n, hn, _, hn6, _, _, hl9, hrow⟩ := pants_facts h
  rw [show (2 * g - 2).toNat = n by omega]
  refine conT_of hmix hTab Try.func26 rfl rfl (by kernel_rfl) (by show 2 ≤ Try.f26.ntmps; decide) ?_
  refine stp ?_; try with_reducible exact True.intro
  refine useT ((IsPantsS g ll hll).toT) ?_; try with_reducible exact True.intro
  refine brF (by rw [h]; rfl) ?_
  refine stp ?_; try with_reducible exact True.intro
  refine useT (l19Least g n hn hn6 ll hl9 (fun j hj => ends_of hrow j hj)) ?_; try with_reducible exact True.intro
  exact (fitK [] [0])
theorem LeastPantsS0 {g : Int} {ll : List (List Int)} (hll : (ll.length : Int) ≤ 1048576) (h : isPants g ll = false) : ConT Try.prog 26 [.i g, .ill ll] (.own 0 0 0) [.arr (.list (.int .i64)) [] true] := by
  refine conT_of hmix hTab Try.func26 rfl rfl (by kernel_rfl) (by show 2 ≤ Try.f26.ntmps; decide) ?_
  refine stp ?_; try with_reducible exact True.intro
  refine useT ((IsPantsS g ll hll).toT) ?_; try with_reducible exact True.intro
  refine brT (by rw [h]; rfl) ?_
  refine stp ?_; try with_reducible exact True.intro
  refine Or.inl ?_; refine stp ?_; try with_reducible exact True.intro
  exact (fitK [] [0])
end Go.Proofs.YtlglchbkenaekaaTv
end
section
open Go Go.Proofs.YtlglchbkenaekaaVe Go.Proofs.YtlglchbkenaekaaTv Go.Proofs
namespace Go.Proofs.YtlglchbkenaekaaTv
set_option maxRecDepth 8000
set_option maxHeartbeats 2000000
/-- Every row is a pair. -/
def Prs (a : List (List Int)) : Prop := ∀ r ∈ a, r.length = 2
theorem cmpF_anti : ∀ (a b : List (List Int)), cmpF a b = - cmpF b a
  | [], [] => rfl
  | [], _ :: _ => rfl
  | _ :: _, [] => rfl
  | e :: a, f :: b => by
    have := cmpF_anti a b
    simp only [cmpF]
    split <;> split <;> (try split) <;> (try split) <;> omega
theorem cmpF_self : ∀ (a : List (List Int)), cmpF a a = 0
  | [] => rfl
  | e :: a => by simp [cmpF, cmpF_self a]
theorem cmpF_le_trans : ∀ {a b c : List (List Int)}, a.length = b.length → b.length = c.length → cmpF a b ≤ 0 → cmpF b c ≤ 0 → cmpF a c ≤ 0
  | [], [], [], _, _, _, _ => by simp [cmpF]
  | e :: a, f :: b, g :: c, h1, h2, h3, h4 => by
    have ih := @cmpF_le_trans a b c (by simpa using h1) (by simpa using h2)
    revert h3 h4
    simp only [cmpF]
    split <;> split <;> (try split) <;> (try split) <;> (try split) <;> (try split) <;> first | omega | (intro h3 h4; exact ih h3 h4)
  | [], _ :: _, _, h, _, _, _ => by cases h
  | _ :: _, [], _, h, _, _, _ => by cases h
  | [], [], _ :: _, _, h, _, _ => by cases h
  | _ :: _, _ :: _, [], _, h, _, _ => by cases h
theorem pair_ext {e f : List Int} (h1 : e.length = 2) (h2 : f.length = 2) (h3 : rd e 0 = rd f 0) (h4 : rd e 1 = rd f 1) : e = f := by
  match e, f, h1, h2 with
  | [a, b], [c, d], _, _ =>
    replace h3 : a = c := h3
    replace h4 : b = d := h4
    rw [h3, h4]
theorem cmpF_eq : ∀ {a b : List (List Int)}, a.length = b.length → Prs a → Prs b → cmpF a b = 0 → a = b
  | [], [], _, _, _, _ => rfl
  | e :: a, f :: b, h, ha, hb, h3 => by
    simp only [cmpF] at h3
    split at h3
    · omega
    · split at h3
      · omega
      · rename_i h5 h6
        rw [pair_ext (ha e (by simp)) (hb f (by simp)) (by omega) (by omega), cmpF_eq (by simpa using h) (fun r hr => ha r (by simp [hr])) (fun r hr => hb r (by simp [hr])) h3]
  | [], _ :: _, h, _, _, _ => by cases h
  | _ :: _, [], h, _, _, _ => by cases h
/-- The least of forms of one shape. -/
structure IsMin (n : Nat) (S : List (List Int) → Prop) (m : List (List Int)) : Prop where
  mem : S m
  le : ∀ x, S x → cmpF m x ≤ 0
theorem IsMin.unique {n : Nat} {S : List (List Int) → Prop} {m m' : List (List Int)} (hS : ∀ x, S x → x.length = n ∧ Prs x) (h : IsMin n S m) (h' : IsMin n S m') : m = m' := by
  have h1 := h.le _ h'.mem
  have h2 := h'.le _ h.mem
  have h3 := cmpF_anti m m'
  have s1 := hS _ h.mem
  have s2 := hS _ h'.mem
  exact cmpF_eq (by omega) s1.2 s2.2 (by omega)
def updB (ll : List (List Int)) (b : Option (List (List Int))) (o : List Int) : Option (List (List Int)) := match b with
  | none => some (renF ll o ll.length)
  | some b => if cmpF (renF ll o ll.length) b < 0 then some (renF ll o ll.length) else some b
theorem updB_min {ll : List (List Int)} (n : Nat) (hn : n = ll.length) : ∀ (ps : List (List Int)) (b : List (List Int)) (S : List (List Int) → Prop), (∀ x, S x → x.length = n) → IsMin n S b → ∃ m, ps.foldl (updB ll) (some b) = some m ∧ IsMin n (fun x => S x ∨ ∃ p ∈ ps, x = renF ll p n) m
  | [], b, S, _, h => ⟨b, rfl, .inl h.mem, fun x hx => hx.elim (h.le x) fun ⟨_, hp, _⟩ => by cases hp⟩
  | p :: ps, b, S, hS, h => by
    subst hn
    have hl := (renF_facts (ll := ll) (names := p) ll.length (Nat.le_refl _)).1
    have key : ∃ b', updB ll (some b) p = some b' ∧ IsMin ll.length (fun x => S x ∨ x = renF ll p ll.length) b' := by
      simp only [updB]
      split
      · rename_i c
        refine ⟨_, rfl, .inr rfl, fun x hx => ?_⟩
        rcases hx with hx | rfl
        · exact cmpF_le_trans (b := b) (by rw [hl, hS _ h.mem]) (by rw [hS _ h.mem, hS _ hx]) (by omega) (h.le x hx)
        · rw [cmpF_self]; omega
      · rename_i c
        refine ⟨_, rfl, .inl h.mem, fun x hx => ?_⟩
        rcases hx with hx | rfl
        · exact h.le x hx
        · have := cmpF_anti b (renF ll p ll.length)
          omega
    obtain ⟨b', e, hb⟩ := key
    obtain ⟨m, e2, hm⟩ := updB_min _ rfl ps b' _ (fun x hx => hx.elim (hS x) fun q => by rw [q, hl]) hb
    refine ⟨m, by rw [List.foldl_cons, e, e2], ?_, fun x hx => hm.le x ?_⟩
    · rcases hm.mem with (h1 | h1) | ⟨q, hq, h1⟩
      · exact .inl h1
      · exact .inr ⟨p, by simp, h1⟩
      · exact .inr ⟨q, by simp [hq], h1⟩
    · rcases hx with h1 | ⟨q, hq, h1⟩
      · exact .inl (.inl h1)
      · rcases List.mem_cons.1 hq with rfl | hq
        · exact .inl (.inr h1)
        · exact .inr ⟨q, hq, h1⟩
theorem updB_none {ll : List (List Int)} {ps : List (List Int)} (h : ps ≠ []) : ∃ m, ps.foldl (updB ll) none = some m ∧ IsMin ll.length (fun x => ∃ p ∈ ps, x = renF ll p ll.length) m := by
  cases ps with
  | nil => exact absurd rfl h
  | cons p ps =>
    have hl := (renF_facts (ll := ll) (names := p) ll.length (Nat.le_refl _)).1
    obtain ⟨m, e, hm⟩ := updB_min ll.length rfl ps (renF ll p ll.length) (fun x => x = renF ll p ll.length) (fun x hx => by rw [hx, hl]) ⟨rfl, fun x hx => by rw [hx, cmpF_self]; omega⟩
    refine ⟨m, e, ?_, fun x hx => hm.le x ?_⟩
    · rcases hm.mem with h1 | ⟨q, hq, h1⟩
      · exact ⟨p, by simp, h1⟩
      · exact ⟨q, by simp [hq], h1⟩
    · obtain ⟨q, hq, h1⟩ := hx
      rcases List.mem_cons.1 hq with rfl | hq
      · exact .inl h1
      · exact .inr ⟨q, hq, h1⟩
theorem leastF_upd {ll ps : List (List Int)} : ∀ {i : Nat}, 1 ≤ i → i ≤ ps.length → (ps.take i).foldl (updB ll) none = some (leastF ll ps i)
  | 0, h, _ => by omega
  | i + 1, h, hi => by
    rw [take_succR (show i < ps.length from hi), List.foldl_append]
    by_cases h1 : 1 ≤ i
    · rw [leastF_upd h1 (by omega), leastF_succ hi h1]
      simp only [List.foldl_cons, List.foldl_nil, updB]
      split <;> rfl
    · obtain rfl : i = 0 := by omega
      unfold leastF
      rw [show ((ps.take (0 + 1)).drop 1) = [] from List.drop_eq_nil_of_le (by simp; omega)]
      rfl
/-- Two numbers of a list change their places. -/
def swapL (o : List Int) (k i : Nat) : List Int := (o.set k (rd o i)).set i (rd o k)
theorem swapL_length (o : List Int) (k i : Nat) : (swapL o k i).length = o.length := by simp [swapL]
theorem swapL_perm {o : List Int} {k i : Nat} (hk : k < o.length) (hi : i < o.length) : (swapL o k i).Perm o := by
  have h1 : rd o i = o[i] := by simp [rd, hi]
  have h2 : rd o k = o[k] := by simp [rd, hk]
  unfold swapL
  rw [h1, h2]
  exact List.set_set_perm hk hi
theorem swapL_self {o : List Int} {k i : Nat} (hk : k < o.length) (hi : i < o.length) : swapL (swapL o k i) k i = o := by
  have h1 : ∀ {l : List Int} {j : Nat}, j < l.length → l[j]? = some (rd l j) := fun {l j} h => by simp [rd, h]
  refine List.ext_getElem? fun j => ?_
  simp only [swapL]
  by_cases e1 : i = k
  · subst e1
    by_cases e2 : i = j
    · subst e2
      simp [rd, hk]
    · simp [e2]
  · have r1 : rd ((o.set k (rd o i)).set i (rd o k)) i = rd o k := by simp [rd, hi]
    have r2 : rd ((o.set k (rd o i)).set i (rd o k)) k = rd o i := by
      have : ((o.set k (rd o i)).set i (rd o k))[k]? = some (rd o i) := by
        rw [List.getElem?_set_ne (by omega)]; simp [hk]
      simp only [rd, List.getD_eq_getElem?_getD, Int.toNat_natCast] at this ⊢
      rw [this]; rfl
    rw [r1, r2]
    by_cases e2 : i = j
    · subst e2
      simp [rd, hi]
    · by_cases e3 : k = j
      · subst e3
        rw [List.getElem?_set_ne e2]
        simp [rd, hk]
      · rw [List.getElem?_set_ne e2, List.getElem?_set_ne e3, List.getElem?_set_ne e2, List.getElem?_set_ne e3]
/-- The orders that come of a list whose first k numbers stay. -/
def ordO : Nat → Nat → List Int → List (List Int)
  | 0, _, o => [o]
  | r + 1, k, o => (List.range (r + 1)).flatMap fun j => ordO r (k + 1) (swapL o k (k + j))
def ordL (r k : Nat) (o : List Int) (i : Nat) : List (List Int) := (List.range i).flatMap fun j => ordO r (k + 1) (swapL o k (k + j))
theorem ordL_succ (r k : Nat) (o : List Int) (i : Nat) : ordL r k o (i + 1) = ordL r k o i ++ ordO r (k + 1) (swapL o k (k + i)) := by simp [ordL, List.range_succ]
theorem ordO_perm : ∀ (r k : Nat) (o : List Int), k + r = o.length → ∀ p ∈ ordO r k o, p.Perm o
  | 0, k, o, _, p, hp => by simp [ordO] at hp; rw [hp]
  | r + 1, k, o, h, p, hp => by
    simp only [ordO, List.mem_flatMap, List.mem_range] at hp
    obtain ⟨j, hj, hp⟩ := hp
    exact (ordO_perm r (k + 1) _ (by rw [swapL_length]; omega) p hp).trans (swapL_perm (by omega) (by omega))
theorem ordO_mem : ∀ (r k : Nat) (o : List Int), k + r = o.length → ∀ p : List Int, p.Perm o → p.take k = o.take k → p ∈ ordO r k o
  | 0, k, o, h, p, hp, ht => by
    have := hp.length_eq
    rw [List.take_of_length_le (by omega), List.take_of_length_le (by omega)] at ht
    simp [ordO, ht]
  | r + 1, k, o, h, p, hp, ht => by
    have hl := hp.length_eq
    have hk : k < p.length := by omega
    have hd : (p.drop k).Perm (o.drop k) := by
      have h1 : (o.take k ++ p.drop k).Perm (o.take k ++ o.drop k) := by
        rw [← ht, List.take_append_drop]
        rw [ht, List.take_append_drop]; exact hp
      exact (List.perm_append_left_iff _).1 h1
    have hx : p[k] ∈ o.drop k := hd.mem_iff.1 (by rw [List.mem_drop_iff_getElem]; exact ⟨0, by omega, rfl⟩)
    rw [List.mem_drop_iff_getElem] at hx
    obtain ⟨j, hj, hx⟩ := hx
    have hj2 : j < r + 1 := by omega
    simp only [ordO, List.mem_flatMap, List.mem_range]
    refine ⟨j, hj2, ordO_mem r (k + 1) _ (by rw [swapL_length]; omega) p (hp.trans (swapL_perm (by omega) (by omega)).symm) ?_⟩
    have t1 : p.take (k + 1) = p.take k ++ [p[k]] := by rw [List.take_succ_eq_append_getElem hk]
    have hkl : k < (swapL o k (k + j)).length := by rw [swapL_length]; omega
    have t2 : (swapL o k (k + j)).take (k + 1) = (swapL o k (k + j)).take k ++ [(swapL o k (k + j))[k]] := by rw [List.take_succ_eq_append_getElem hkl]
    have t3 : (swapL o k (k + j)).take k = o.take k := by
      unfold swapL
      rw [List.take_set_of_le (by omega), List.take_set_of_le (by omega)]
    have t4 : (swapL o k (k + j))[k] = p[k] := by
      rw [← hx]
      simp only [swapL]
      by_cases e : j = 0
      · subst e
        simp [rd, show k < o.length by omega, Nat.add_comm]
      · rw [List.getElem_set_ne (by omega)]
        simp [rd, show ((k : Int) + (j : Int)).toNat = k + j by omega, show k + j < o.length by omega]
    rw [t1, t2, t3, t4, ht]
theorem allP_mem : ∀ (n : Nat) (p : List Int), p.Perm (idP n) → p ∈ allP n
  | 0, p, h => by
    have : p = [] := h.eq_nil
    simp [this, allP]
  | n + 1, p, h => by
    have hm : (n : Int) ∈ p := h.mem_iff.2 (by rw [idP_succ]; simp)
    obtain ⟨a, b, rfl⟩ := List.append_of_mem hm
    have h2 : (a ++ b).Perm (idP n) := by
      have h3 : ((n : Int) :: (a ++ b)).Perm ((n : Int) :: idP n) := List.perm_middle.symm.trans (h.trans (by rw [idP_succ]; exact List.perm_append_singleton _ _))
      exact h3.cons_inv
    have h4 := allP_mem n _ h2
    have hl : (a ++ b).length = n := (allP_facts n).1 _ h4
    show _ ∈ (((allP n).take (allP n).length).flatMap fun q => rowK n q (q.length + 1))
    rw [List.take_length, List.mem_flatMap]
    refine ⟨_, h4, ?_⟩
    simp only [rowK, List.mem_map, List.mem_range]
    refine ⟨a.length, by simp at hl ⊢; omega, ?_⟩
    simp [insK]
/-- Both ways to the least form agree. -/
theorem least_eq {ll : List (List Int)} {n : Nat} (hn : 1 ≤ (allP n).length) : (ordO n 0 (idP n)).foldl (updB ll) none = some (leastF ll (allP n) (allP n).length) := by
  have hmem : ∀ p, p ∈ ordO n 0 (idP n) ↔ p ∈ allP n := fun p => ⟨fun h => allP_mem n p (ordO_perm n 0 _ (by rw [idP_length]; omega) p h), fun h => ordO_mem n 0 _ (by rw [idP_length]; omega) p (allP_perm n p h) (by simp)⟩
  have h0 : ∀ {l : List (List Int)}, 1 ≤ l.length → l ≠ [] := fun h e => by rw [e] at h; simp at h
  have h1 : ordO n 0 (idP n) ≠ [] := fun e => by
    cases hx : allP n with
    | nil => rw [hx] at hn; simp at hn
    | cons q l => have := (hmem q).2 (by rw [hx]; simp); rw [e] at this; cases this
  obtain ⟨m, e, hm⟩ := updB_none (ll := ll) h1
  obtain ⟨m', e', hm'⟩ := updB_none (ll := ll) (h0 hn)
  have e2 := leastF_upd (ll := ll) hn (Nat.le_refl _)
  rw [List.take_length] at e2
  rw [e, ← e2, e']
  refine congrArg some (IsMin.unique (S := fun x => ∃ p ∈ allP n, x = renF ll p ll.length) (fun x ⟨p, _, hx⟩ => ?_) ⟨?_, fun x hx => hm.le x ?_⟩ hm')
  · rw [hx]; exact renF_facts (ll := ll) (names := p) ll.length (Nat.le_refl _)
  · obtain ⟨p, hp, h⟩ := hm.mem; exact ⟨p, (hmem p).1 hp, h⟩
  · obtain ⟨p, hp, h⟩ := hx; exact ⟨p, (hmem p).2 hp, h⟩
end Go.Proofs.YtlglchbkenaekaaTv
end
section
open Go Go.Proofs.YtlglchbkenaekaaVe Go.Proofs.YtlglchbkenaekaaTv Go.Proofs
namespace Go.Proofs.YtlglchbkenaekaaTv
set_option maxRecDepth 8000
set_option maxHeartbeats 2000000
def EndsL (ll : List (List Int)) (n : Nat) : Prop := ∀ j : Nat, j < ll.length → (rdR ll j).length = 2 ∧ (0 ≤ rd (rdR ll j) 0 ∧ rd (rdR ll j) 0 < n) ∧ (0 ≤ rd (rdR ll j) 1 ∧ rd (rdR ll j) 1 < n)
def sA (ll : List (List Int)) (o : List Int) : List Obj := [.vars [.ill ll], .vars [.nil (.list (.int .i64))], .arr (.int .i64) o true]
def sB (ll : List (List Int)) (o : List Int) (b : List (List Int)) : List Obj := [.vars [.ill ll], .vars [.own 3 0 ll.length], .arr (.int .i64) o true, .arr (.list (.int .i64)) b true]
def sC (ll : List (List Int)) (o : List Int) (b b' : List (List Int)) : List Obj := [.vars [.ill ll], .vars [.own 4 0 ll.length], .arr (.int .i64) o true, .arr (.list (.int .i64)) b true, .arr (.list (.int .i64)) b' true]
theorem visA (ll : List (List Int)) (o : List Int) (hl : ll.length ≤ 9) (hr : EndsL ll o.length) : ConI Try.prog 70 [.own 2 0 o.length, .pcell 0 0, .pcell 1 0] (sA ll o) (.tup []) (sB ll o (renF ll o ll.length)) := by
  refine conI_of hmix hTab Try.func70 rfl rfl (by kernel_rfl) (by show 3 ≤ Try.f70.ntmps; decide) ?_
  refine stp ?_; try with_reducible exact True.intro
  refine useT (renamed ll o hl hr) ?_; try with_reducible exact True.intro
  exact (fitK [] [0, 1, 2, 3])
theorem visB (ll : List (List Int)) (o : List Int) (b : List (List Int)) (hl : ll.length ≤ 9) (hr : EndsL ll o.length) (ho : ∀ x ∈ o, 0 ≤ x ∧ x ≤ 1000) (hb : b.length = ll.length) (hs : Small b) : ConI Try.prog 70 [.own 2 0 o.length, .pcell 0 0, .pcell 1 0] (sB ll o b) (.tup []) (if cmpF (renF ll o ll.length) b < 0 then sC ll o b (renF ll o ll.length) else sB ll o b) := by
  refine conI_of hmix hTab Try.func70 rfl rfl (by kernel_rfl) (by show 3 ≤ Try.f70.ntmps; decide) ?_
  have hsm := Small_renF hr ho
  have hle := (renF_facts (ll := ll) (names := o) ll.length (Nat.le_refl _)).1
  refine stp ?_; try with_reducible exact True.intro
  refine useT (renamed ll o hl hr) ?_; try with_reducible exact True.intro
  refine useT ((compareRows (renF ll o ll.length) b (by rw [hle]; exact hl) (by rw [hle]; exact hb) hsm hs).toT) ?_; try with_reducible exact True.intro
  refine Br.mk (fun h1 => ?_) (fun h1 => ?_) <;> simp [-Int.ofNat_toNat] at h1
  · rw [if_pos h1]
    refine stp ?_; try with_reducible exact True.intro
    exact (fitK [] [0, 1, 2, 3, 4])
  · rw [if_neg (by omega)]
    refine stp ?_; try with_reducible exact True.intro
    exact (fitK [] [0, 1, 2, 3])
def fB (ll : List (List Int)) (c : Bool × List (List Int)) (o : List Int) : Bool × List (List Int) := if cmpF (renF ll o ll.length) c.2 < 0 then (true, renF ll o ll.length) else c
theorem fB_or (ll : List (List Int)) : ∀ (ps : List (List Int)) (fl : Bool) (c : List (List Int)), ps.foldl (fB ll) (fl, c) = (fl || (ps.foldl (fB ll) (false, c)).1, (ps.foldl (fB ll) (false, c)).2)
  | [], fl, c => by simp
  | p :: ps, fl, c => by
    simp only [List.foldl_cons, fB]
    split
    · rw [fB_or ll ps true]
      simp
    · exact fB_or ll ps fl c
theorem fB_upd (ll : List (List Int)) : ∀ (ps : List (List Int)) (fl : Bool) (c : List (List Int)), ps.foldl (updB ll) (some c) = some (ps.foldl (fB ll) (fl, c)).2
  | [], fl, c => rfl
  | p :: ps, fl, c => by
    simp only [List.foldl_cons, fB, updB]
    split
    · exact fB_upd ll ps true _
    · exact fB_upd ll ps fl c
theorem fB_shape {ll : List (List Int)} {n : Nat} (hr : EndsL ll n) (hn : n ≤ 1000) : ∀ (ps : List (List Int)) (fl : Bool) (c : List (List Int)), (∀ p ∈ ps, p.length = n ∧ ∀ x ∈ p, 0 ≤ x ∧ x ≤ 1000) → c.length = ll.length → Small c → (ps.foldl (fB ll) (fl, c)).2.length = ll.length ∧ Small (ps.foldl (fB ll) (fl, c)).2
  | [], _, c, _, h1, h2 => ⟨h1, h2⟩
  | p :: ps, fl, c, hp, h1, h2 => by
    have hp0 := hp p (by simp)
    simp only [List.foldl_cons, fB]
    split
    · exact fB_shape hr hn ps true _ (fun q hq => hp q (by simp [hq])) (renF_facts (ll := ll) (names := p) ll.length (Nat.le_refl _)).1 (Small_renF (by rw [hp0.1]; exact hr) hp0.2)
    · exact fB_shape hr hn ps fl c (fun q hq => hp q (by simp [hq])) h1 h2
def oA (ll : List (List Int)) (o : List Int) : List Obj := [.vars [.own 5 0 o.length], .vars [.fn 70 [.pcell 3 0, .pcell 4 0]], .vars [.fn 103 [.pcell 0 0, .pcell 1 0, .pcell 2 0]], .vars [.ill ll], .vars [.nil (.list (.int .i64))], .arr (.int .i64) o true]
def oB (ll : List (List Int)) (o : List Int) (b : List (List Int)) : List Obj := [.vars [.own 5 0 o.length], .vars [.fn 70 [.pcell 3 0, .pcell 4 0]], .vars [.fn 103 [.pcell 0 0, .pcell 1 0, .pcell 2 0]], .vars [.ill ll], .vars [.own 6 0 ll.length], .arr (.int .i64) o true, .arr (.list (.int .i64)) b true]
def oC (ll : List (List Int)) (o : List Int) (b b' : List (List Int)) : List Obj := [.vars [.own 5 0 o.length], .vars [.fn 70 [.pcell 3 0, .pcell 4 0]], .vars [.fn 103 [.pcell 0 0, .pcell 1 0, .pcell 2 0]], .vars [.ill ll], .vars [.own 7 0 ll.length], .arr (.int .i64) o true, .arr (.list (.int .i64)) b true, .arr (.list (.int .i64)) b' true]
def oD (ll : List (List Int)) (o : List Int) (b : List (List Int)) (c : Bool × List (List Int)) : List Obj := match c.1 with
  | true => oC ll o b c.2
  | false => oB ll o b
theorem fB_false (ll : List (List Int)) : ∀ (ps : List (List Int)) (c : List (List Int)), (ps.foldl (fB ll) (false, c)).1 = false → (ps.foldl (fB ll) (false, c)).2 = c
  | [], c, _ => rfl
  | p :: ps, c, h => by
    simp only [List.foldl_cons, fB] at h ⊢
    split at h
    · rw [fB_or ll ps true] at h
      simp at h
    · rename_i hc
      rw [if_neg hc]
      exact fB_false ll ps c h
theorem ordB (ll : List (List Int)) (n : Nat) (hn : n ≤ 1000) (hl : ll.length ≤ 9) (hr : EndsL ll n) : ∀ (r k : Nat) (o : List Int) (b : List (List Int)), k + r = o.length → o.length = n → (∀ x ∈ o, 0 ≤ x ∧ x ≤ 1000) → b.length = ll.length → Small b →
    ConI Try.prog 103 [.i k, .pcell 0 0, .pcell 1 0, .pcell 2 0] (oB ll o b) (.tup []) (oD ll o b ((ordO r k o).foldl (fB ll) (false, b))) := by
  intro r
  induction r with
  | zero =>
    intro k o b hk hol ho hb hs
    have hv := visB ll o b hl (by rw [hol]; exact hr) ho hb hs
    refine conI_of hmix hTab Try.func103 rfl rfl (by kernel_rfl) (by show 4 ≤ Try.f103.ntmps; decide) ?_
    refine stp ?_; try with_reducible exact True.intro
    refine Br.mk (fun h1 => ?_) (fun h1 => ?_) <;> simp [-Int.ofNat_toNat] at h1
    · simp only [ordO, List.foldl_cons, List.foldl_nil, fB]
      refine stp ?_; try with_reducible exact True.intro
      by_cases hc : cmpF (renF ll o ll.length) b < 0
      · rw [if_pos hc] at hv ⊢
        refine useI [3, 4, 5, 6] (hv) ?_; try with_reducible exact True.intro
        exact (fitK [] [0, 1, 2, 3, 4, 5, 6, 7])
      · rw [if_neg hc] at hv ⊢
        refine useI [3, 4, 5, 6] (hv) ?_; try with_reducible exact True.intro
        exact (fitK [] [0, 1, 2, 3, 4, 5, 6])
    · omega
  | succ r ih =>
    intro k o b hk hol ho hb hs
    have hps : ∀ i, k + i ≤ o.length → ∀ p ∈ ordL r k o i, p.length = n ∧ ∀ x ∈ p, 0 ≤ x ∧ x ≤ 1000 := fun i hi p hp => by
      simp only [ordL, List.mem_flatMap, List.mem_range] at hp
      obtain ⟨j, hj, hp⟩ := hp
      have h2 := (ordO_perm r (k + 1) _ (by rw [swapL_length]; omega) p hp).trans (swapL_perm (by omega) (by omega))
      exact ⟨h2.length_eq.trans hol, fun x hx => ho x (h2.mem_iff.1 hx)⟩
    refine conI_of hmix hTab Try.func103 rfl rfl (by kernel_rfl) (by show 4 ≤ Try.f103.ntmps; decide) ?_
    refine stp ?_; try with_reducible exact True.intro
    refine Br.mk (fun h1 => ?_) (fun h1 => ?_) <;> simp [-Int.ofNat_toNat] at h1
    · omega
    · refine stp ?_; try with_reducible exact True.intro
      refine ⟨Nat × Bool × List (List Int), fun a => (k ≤ a.1 ∧ a.1 ≤ o.length) ∧ a.2 = (ordL r k o (a.1 - k)).foldl (fB ll) (false, b), fun a => o.length - a.1, fun a => [(0, .i k), (1, .pcell 0 0), (2, .pcell 1 0), (3, .pcell 2 0), (5, .i a.1)], fun a => oD ll o b a.2, ⟨(k, false, b), (fitK [] [0, 1, 2, 3, 4, 5, 6]), by simp [ordL]; omega⟩, fun ⟨i, fl, c⟩ ⟨⟨hi1, hi2⟩, hc⟩ => ?_⟩
      dsimp only at hi1 hi2 hc ⊢
      have hsh := fB_shape hr hn (ordL r k o (i - k)) false b (hps _ (by omega)) hb hs
      rw [← hc] at hsh
      obtain ⟨hsh1, hsh2⟩ := hsh
      have hsl := swapL_length o k i
      have hos := ordL_succ r k o (i - k)
      rw [show k + (i - k) = i by omega] at hos
      have hnext : ((i + 1 - k : Nat)) = i - k + 1 := by omega
      cases fl with
      | true =>
        refine stp ?_; try with_reducible exact True.intro
        refine Br.mk (fun h2 => ?_) (fun h2 => ?_) <;> simp [-Int.ofNat_toNat] at h2
        · have hsw := swapL_perm (o := o) (k := k) (i := i) (by omega) h2
          have hss := swapL_self (o := o) (k := k) (i := i) (by omega) h2
          have hcall := ih (k + 1) (swapL o k i) c (by rw [hsl]; omega) (by rw [hsl]; exact hol) (fun x hx => ho x (hsw.mem_iff.1 hx)) hsh1 hsh2
          have hstep : (ordL r k o (i + 1 - k)).foldl (fB ll) (false, b) = (true, ((ordO r (k + 1) (swapL o k i)).foldl (fB ll) (false, c)).2) := by
            rw [hnext, hos, List.foldl_append, ← hc, fB_or]
            rfl
          have hfal := fB_false ll (ordO r (k + 1) (swapL o k i)) c
          rcases hx : (ordO r (k + 1) (swapL o k i)).foldl (fB ll) (false, c) with ⟨fl', c'⟩
          rw [hx] at hcall hstep hfal
          simp only [oB, hsl] at hcall
          refine stp ?_; try with_reducible exact True.intro
          cases fl' with
          | true =>
            simp only [oD, oC, hsl] at hcall
            refine .inr ⟨[0, 1, 2, 3, 4, 5, 7], _, _, _, _, hcall, by decide, by repeat (first | exact trivial | refine ⟨by first | rfl | (simp [Obj.ren, frzI, -Int.ofNat_toNat]; done) | (simp [Obj.ren, frzI, V.ren, V.rens, V.cells, EnvV.ev, EnvV.upd, mkE, backL, backN, -Int.ofNat_toNat]; done) | (simp [Obj.ren, frzI, -Int.ofNat_toNat]; omega), ?_⟩), rfl, .inr ⟨rfl, rfl⟩, ?_⟩
            refine stp ?_; try with_reducible exact True.intro
            refine ⟨(i + 1, true, c'), ⟨.frz [], [0, 1, 2, 3, 4, 5, 6, 8], ⟨rfl, rfl, rfl, rfl, rfl, trivial⟩, ⟨rfl, rfl, rfl, rfl, rfl, ?_, rfl, rfl, trivial⟩, by decide, rfl, rfl, rfl⟩, ⟨⟨by dsimp only; omega, h2⟩, hstep.symm⟩, by first | ((try dsimp only); omega) | (simp; omega)⟩
            show some (Obj.arr (.int .i64) (swapL (swapL o k i) k i) true) = _
            rw [hss]
            rfl
          | false =>
            obtain rfl : c' = c := hfal rfl
            simp only [oD, oB, hsl] at hcall
            refine .inr ⟨[0, 1, 2, 3, 4, 5, 7], _, _, _, _, hcall, by decide, by repeat (first | exact trivial | refine ⟨by first | rfl | (simp [Obj.ren, frzI, -Int.ofNat_toNat]; done) | (simp [Obj.ren, frzI, V.ren, V.rens, V.cells, EnvV.ev, EnvV.upd, mkE, backL, backN, -Int.ofNat_toNat]; done) | (simp [Obj.ren, frzI, -Int.ofNat_toNat]; omega), ?_⟩), rfl, .inr ⟨rfl, rfl⟩, ?_⟩
            refine stp ?_; try with_reducible exact True.intro
            refine ⟨(i + 1, true, c'), ⟨.frz [], [0, 1, 2, 3, 4, 5, 6, 7], ⟨rfl, rfl, rfl, rfl, rfl, trivial⟩, ⟨rfl, rfl, rfl, rfl, rfl, ?_, rfl, rfl, trivial⟩, by decide, rfl, rfl, rfl⟩, ⟨⟨by dsimp only; omega, h2⟩, hstep.symm⟩, by first | ((try dsimp only); omega) | (simp; omega)⟩
            show some (Obj.arr (.int .i64) (swapL (swapL o k i) k i) true) = _
            rw [hss]
            rfl
        · have hfin : (ordO (r + 1) k o).foldl (fB ll) (false, b) = (true, c) := by
            rw [show i - k = r + 1 by omega] at hc
            exact hc.symm
          rw [hfin]
          refine stp ?_; try with_reducible exact True.intro
          exact (fitK [] [0, 1, 2, 3, 4, 5, 6, 7])
      | false =>
        obtain rfl : c = b := by
          have := fB_false ll (ordL r k o (i - k)) b (by rw [← hc])
          rwa [← hc] at this
        refine stp ?_; try with_reducible exact True.intro
        refine Br.mk (fun h2 => ?_) (fun h2 => ?_) <;> simp [-Int.ofNat_toNat] at h2
        · have hsw := swapL_perm (o := o) (k := k) (i := i) (by omega) h2
          have hss := swapL_self (o := o) (k := k) (i := i) (by omega) h2
          have hcall := ih (k + 1) (swapL o k i) c (by rw [hsl]; omega) (by rw [hsl]; exact hol) (fun x hx => ho x (hsw.mem_iff.1 hx)) hsh1 hsh2
          have hstep : (ordL r k o (i + 1 - k)).foldl (fB ll) (false, c) = (ordO r (k + 1) (swapL o k i)).foldl (fB ll) (false, c) := by
            rw [hnext, hos, List.foldl_append, ← hc]
          have hfal := fB_false ll (ordO r (k + 1) (swapL o k i)) c
          rcases hx : (ordO r (k + 1) (swapL o k i)).foldl (fB ll) (false, c) with ⟨fl', c'⟩
          rw [hx] at hcall hstep hfal
          simp only [oB, hsl] at hcall
          refine stp ?_; try with_reducible exact True.intro
          cases fl' with
          | true =>
            simp only [oD, oC, hsl] at hcall
            refine .inr ⟨[0, 1, 2, 3, 4, 5, 6], _, _, _, _, hcall, by decide, by repeat (first | exact trivial | refine ⟨by first | rfl | (simp [Obj.ren, frzI, -Int.ofNat_toNat]; done) | (simp [Obj.ren, frzI, V.ren, V.rens, V.cells, EnvV.ev, EnvV.upd, mkE, backL, backN, -Int.ofNat_toNat]; done) | (simp [Obj.ren, frzI, -Int.ofNat_toNat]; omega), ?_⟩), rfl, .inr ⟨rfl, rfl⟩, ?_⟩
            refine stp ?_; try with_reducible exact True.intro
            refine ⟨(i + 1, true, c'), ⟨.frz [], [0, 1, 2, 3, 4, 5, 6, 7], ⟨rfl, rfl, rfl, rfl, rfl, trivial⟩, ⟨rfl, rfl, rfl, rfl, rfl, ?_, rfl, rfl, trivial⟩, by decide, rfl, rfl, rfl⟩, ⟨⟨by dsimp only; omega, h2⟩, hstep.symm⟩, by first | ((try dsimp only); omega) | (simp; omega)⟩
            show some (Obj.arr (.int .i64) (swapL (swapL o k i) k i) true) = _
            rw [hss]
            rfl
          | false =>
            obtain rfl : c' = c := hfal rfl
            simp only [oD, oB, hsl] at hcall
            refine .inr ⟨[0, 1, 2, 3, 4, 5, 6], _, _, _, _, hcall, by decide, by repeat (first | exact trivial | refine ⟨by first | rfl | (simp [Obj.ren, frzI, -Int.ofNat_toNat]; done) | (simp [Obj.ren, frzI, V.ren, V.rens, V.cells, EnvV.ev, EnvV.upd, mkE, backL, backN, -Int.ofNat_toNat]; done) | (simp [Obj.ren, frzI, -Int.ofNat_toNat]; omega), ?_⟩), rfl, .inr ⟨rfl, rfl⟩, ?_⟩
            refine stp ?_; try with_reducible exact True.intro
            refine ⟨(i + 1, false, c'), ⟨.frz [], [0, 1, 2, 3, 4, 5, 6], ⟨rfl, rfl, rfl, rfl, rfl, trivial⟩, ⟨rfl, rfl, rfl, rfl, rfl, ?_, rfl, trivial⟩, by decide, rfl, rfl, rfl⟩, ⟨⟨by dsimp only; omega, h2⟩, hstep.symm⟩, by first | ((try dsimp only); omega) | (simp; omega)⟩
            show some (Obj.arr (.int .i64) (swapL (swapL o k i) k i) true) = _
            rw [hss]
            rfl
        · have hfin : (ordO (r + 1) k o).foldl (fB ll) (false, c) = (false, c) := by
            rw [show i - k = r + 1 by omega] at hc
            exact hc.symm
          rw [hfin]
          refine stp ?_; try with_reducible exact True.intro
          exact (fitK [] [0, 1, 2, 3, 4, 5, 6])
theorem ordA (ll : List (List Int)) (n : Nat) (hn : n ≤ 1000) (hl : ll.length ≤ 9) (hr : EndsL ll n) : ∀ (r k : Nat) (o : List Int), k + r = o.length → o.length = n → (∀ x ∈ o, 0 ≤ x ∧ x ≤ 1000) →
    ∃ b, (ordO r k o).foldl (updB ll) none = some b ∧ b.length = ll.length ∧ Small b ∧ ConI Try.prog 103 [.i k, .pcell 0 0, .pcell 1 0, .pcell 2 0] (oA ll o) (.tup []) (oB ll o b) := by
  intro r
  induction r with
  | zero =>
    intro k o hk hol ho
    have hv := visA ll o hl (by rw [hol]; exact hr)
    refine ⟨_, rfl, (renF_facts (ll := ll) (names := o) ll.length (Nat.le_refl _)).1, Small_renF (by rw [hol]; exact hr) ho, ?_⟩
    refine conI_of hmix hTab Try.func103 rfl rfl (by kernel_rfl) (by show 4 ≤ Try.f103.ntmps; decide) ?_
    refine stp ?_; try with_reducible exact True.intro
    refine Br.mk (fun h1 => ?_) (fun h1 => ?_) <;> simp [-Int.ofNat_toNat] at h1
    · refine stp ?_; try with_reducible exact True.intro
      refine useI [3, 4, 5] (hv) ?_; try with_reducible exact True.intro
      exact (fitK [] [0, 1, 2, 3, 4, 5, 6])
    · omega
  | succ r ih =>
    intro k o hk hol ho
    have hps : ∀ i, k + i ≤ o.length → ∀ p ∈ ordL r k o i, p.length = n ∧ ∀ x ∈ p, 0 ≤ x ∧ x ≤ 1000 := fun i hi p hp => by
      simp only [ordL, List.mem_flatMap, List.mem_range] at hp
      obtain ⟨j, hj, hp⟩ := hp
      have h2 := (ordO_perm r (k + 1) _ (by rw [swapL_length]; omega) p hp).trans (swapL_perm (by omega) (by omega))
      exact ⟨h2.length_eq.trans hol, fun x hx => ho x (h2.mem_iff.1 hx)⟩
    have hord : ∀ i, k ≤ i → ordL r k o (i + 1 - k) = ordL r k o (i - k) ++ ordO r (k + 1) (swapL o k i) := fun i hi => by
      have hos := ordL_succ r k o (i - k)
      rw [show k + (i - k) = i by omega] at hos
      rw [show i + 1 - k = i - k + 1 by omega]; exact hos
    have hsl := fun i => swapL_length o k i
    have hsw : ∀ i, i < o.length → (swapL o k i).Perm o := fun i hi => swapL_perm (o := o) (k := k) (i := i) (by omega) hi
    -- every list but the first
    have hex : ∀ i, k < i → i ≤ o.length → ∃ c, (ordL r k o (i - k)).foldl (updB ll) none = some c ∧ c.length = ll.length ∧ Small c := fun i => by
      induction i with
      | zero => intro h; omega
      | succ i ihi =>
        intro h1 h2
        rw [hord i (by omega), List.foldl_append]
        by_cases hik : k < i
        · obtain ⟨c, e, c1, c2⟩ := ihi hik (by omega)
          rw [e, fB_upd ll _ false]
          obtain ⟨d1, d2⟩ := fB_shape hr hn (ordO r (k + 1) (swapL o k i)) false c (fun p hp => by
            have h3 := (ordO_perm r (k + 1) _ (by rw [hsl]; omega) p hp).trans (hsw i (by omega))
            exact ⟨h3.length_eq.trans hol, fun x hx => ho x (h3.mem_iff.1 hx)⟩) c1 c2
          exact ⟨_, rfl, d1, d2⟩
        · obtain rfl : i = k := by omega
          rw [Nat.sub_self]
          obtain ⟨b, e, b1, b2, _⟩ := ih (i + 1) (swapL o i i) (by rw [hsl]; omega) (by rw [hsl]; exact hol) (fun x hx => ho x ((hsw i (by omega)).mem_iff.1 hx))
          exact ⟨b, e, b1, b2⟩
    obtain ⟨b, hb, hb1, hb2⟩ := hex o.length (by omega) (Nat.le_refl _)
    refine ⟨b, by rw [← hb, show o.length - k = r + 1 by omega]; rfl, hb1, hb2, ?_⟩
    refine conI_of hmix hTab Try.func103 rfl rfl (by kernel_rfl) (by show 4 ≤ Try.f103.ntmps; decide) ?_
    refine stp ?_; try with_reducible exact True.intro
    refine Br.mk (fun h1 => ?_) (fun h1 => ?_) <;> simp [-Int.ofNat_toNat] at h1
    · omega
    · refine stp ?_; try with_reducible exact True.intro
      refine ⟨Nat × Option (List (List Int)), fun a => (k ≤ a.1 ∧ a.1 ≤ o.length) ∧ a.2 = (ordL r k o (a.1 - k)).foldl (updB ll) none, fun a => o.length - a.1, fun a => [(0, .i k), (1, .pcell 0 0), (2, .pcell 1 0), (3, .pcell 2 0), (5, .i a.1)], fun a => match a.2 with | none => oA ll o | some c => oB ll o c, ⟨(k, none), (fitK [] [0, 1, 2, 3, 4, 5]), by simp [ordL]; omega⟩, fun ⟨i, oc⟩ ⟨⟨hi1, hi2⟩, hc⟩ => ?_⟩
      dsimp only at hi1 hi2 hc ⊢
      cases oc with
      | none =>
        have hik : i = k := by
          by_cases h : k < i
          · obtain ⟨c, e, _⟩ := hex i h hi2
            rw [e] at hc; cases hc
          · omega
        subst hik
        have hsl0 := hsl i
        refine stp ?_; try with_reducible exact True.intro
        refine Br.mk (fun h2 => ?_) (fun h2 => ?_) <;> simp [-Int.ofNat_toNat] at h2
        · have hss := swapL_self (o := o) (k := i) (i := i) (by omega) h2
          obtain ⟨c', e, b1, b2, hcall⟩ := ih (i + 1) (swapL o i i) (by rw [hsl]; omega) (by rw [hsl]; exact hol) (fun x hx => ho x ((hsw i (by omega)).mem_iff.1 hx))
          have hstep : (ordL r i o (i + 1 - i)).foldl (updB ll) none = some c' := by
            rw [hord i (by omega), List.foldl_append, Nat.sub_self]; exact e
          simp only [oA, oB, hsl] at hcall
          refine stp ?_; try with_reducible exact True.intro
          refine .inr ⟨[0, 1, 2, 3, 4, 5], _, _, _, _, hcall, by decide, by repeat (first | exact trivial | refine ⟨by first | rfl | (simp [Obj.ren, frzI, -Int.ofNat_toNat]; done) | (simp [Obj.ren, frzI, V.ren, V.rens, V.cells, EnvV.ev, EnvV.upd, mkE, backL, backN, -Int.ofNat_toNat]; done) | (simp [Obj.ren, frzI, -Int.ofNat_toNat]; omega), ?_⟩), rfl, .inr ⟨rfl, rfl⟩, ?_⟩
          refine stp ?_; try with_reducible exact True.intro
          refine ⟨(i + 1, some c'), ⟨.frz [], [0, 1, 2, 3, 4, 5, 6], ⟨rfl, rfl, rfl, rfl, rfl, trivial⟩, ⟨rfl, rfl, rfl, rfl, rfl, ?_, rfl, trivial⟩, by decide, rfl, rfl, rfl⟩, ⟨⟨by dsimp only; omega, h2⟩, hstep.symm⟩, by first | ((try dsimp only); omega) | (simp; omega)⟩
          show some (Obj.arr (.int .i64) (swapL (swapL o i i) i i) true) = _
          rw [hss]
          rfl
        · omega
      | some c =>
        have hik : k < i := by
          by_cases h : k < i
          · exact h
          · rw [show i - k = 0 by omega] at hc
            cases hc
        obtain ⟨c0, e0, c1, c2⟩ := hex i hik hi2
        obtain rfl : c0 = c := by rw [e0] at hc; injection hc with hc; exact hc.symm
        have hsl0 := hsl i
        refine stp ?_; try with_reducible exact True.intro
        refine Br.mk (fun h2 => ?_) (fun h2 => ?_) <;> simp [-Int.ofNat_toNat] at h2
        · have hss := swapL_self (o := o) (k := k) (i := i) (by omega) h2
          have hcall := ordB ll n hn hl hr r (k + 1) (swapL o k i) c0 (by rw [hsl]; omega) (by rw [hsl]; exact hol) (fun x hx => ho x ((hsw i h2).mem_iff.1 hx)) c1 c2
          have hstep : (ordL r k o (i + 1 - k)).foldl (updB ll) none = some ((ordO r (k + 1) (swapL o k i)).foldl (fB ll) (false, c0)).2 := by
            rw [hord i (by omega), List.foldl_append, e0, fB_upd ll _ false]
          have hfal := fB_false ll (ordO r (k + 1) (swapL o k i)) c0
          rcases hx : (ordO r (k + 1) (swapL o k i)).foldl (fB ll) (false, c0) with ⟨fl', c'⟩
          rw [hx] at hcall hstep hfal
          simp only [oB, hsl] at hcall
          refine stp ?_; try with_reducible exact True.intro
          cases fl' with
          | true =>
            simp only [oD, oC, hsl] at hcall
            refine .inr ⟨[0, 1, 2, 3, 4, 5, 6], _, _, _, _, hcall, by decide, by repeat (first | exact trivial | refine ⟨by first | rfl | (simp [Obj.ren, frzI, -Int.ofNat_toNat]; done) | (simp [Obj.ren, frzI, V.ren, V.rens, V.cells, EnvV.ev, EnvV.upd, mkE, backL, backN, -Int.ofNat_toNat]; done) | (simp [Obj.ren, frzI, -Int.ofNat_toNat]; omega), ?_⟩), rfl, .inr ⟨rfl, rfl⟩, ?_⟩
            refine stp ?_; try with_reducible exact True.intro
            refine ⟨(i + 1, some c'), ⟨.frz [], [0, 1, 2, 3, 4, 5, 7], ⟨rfl, rfl, rfl, rfl, rfl, trivial⟩, ⟨rfl, rfl, rfl, rfl, rfl, ?_, rfl, trivial⟩, by decide, rfl, rfl, rfl⟩, ⟨⟨by dsimp only; omega, h2⟩, hstep.symm⟩, by first | ((try dsimp only); omega) | (simp; omega)⟩
            show some (Obj.arr (.int .i64) (swapL (swapL o k i) k i) true) = _
            rw [hss]
            rfl
          | false =>
            obtain rfl : c' = c0 := hfal rfl
            simp only [oD, oB, hsl] at hcall
            refine .inr ⟨[0, 1, 2, 3, 4, 5, 6], _, _, _, _, hcall, by decide, by repeat (first | exact trivial | refine ⟨by first | rfl | (simp [Obj.ren, frzI, -Int.ofNat_toNat]; done) | (simp [Obj.ren, frzI, V.ren, V.rens, V.cells, EnvV.ev, EnvV.upd, mkE, backL, backN, -Int.ofNat_toNat]; done) | (simp [Obj.ren, frzI, -Int.ofNat_toNat]; omega), ?_⟩), rfl, .inr ⟨rfl, rfl⟩, ?_⟩
            refine stp ?_; try with_reducible exact True.intro
            refine ⟨(i + 1, some c'), ⟨.frz [], [0, 1, 2, 3, 4, 5, 6], ⟨rfl, rfl, rfl, rfl, rfl, trivial⟩, ⟨rfl, rfl, rfl, rfl, rfl, ?_, rfl, trivial⟩, by decide, rfl, rfl, rfl⟩, ⟨⟨by dsimp only; omega, h2⟩, hstep.symm⟩, by first | ((try dsimp only); omega) | (simp; omega)⟩
            show some (Obj.arr (.int .i64) (swapL (swapL o k i) k i) true) = _
            rw [hss]
            rfl
        · obtain rfl : i = o.length := by omega
          obtain rfl : c0 = b := by rw [e0] at hb; injection hb
          refine stp ?_; try with_reducible exact True.intro
          exact (fitK [] [0, 1, 2, 3, 4, 5, 6])
theorem orders (ll : List (List Int)) (n : Nat) (hn : n ≤ 1000) (hl : ll.length ≤ 9) (hr : EndsL ll n) (p : List Int) (hp : p.length = n) (ho : ∀ x ∈ p, 0 ≤ x ∧ x ≤ 1000) : ∃ b, (ordO n 0 p).foldl (updB ll) none = some b ∧ b.length = ll.length ∧ Small b ∧
    ConI Try.prog 68 [.own 2 0 n, .fn 70 [.pcell 0 0, .pcell 1 0]] [.vars [.ill ll], .vars [.nil (.list (.int .i64))], .arr (.int .i64) p true] (.tup []) [.vars [.ill ll], .vars [.own 3 0 ll.length], .arr (.int .i64) p true, .arr (.list (.int .i64)) b true] := by
  obtain ⟨b, h1, h2, h3, h4⟩ := ordA ll n hn hl hr n 0 p (by omega) hp ho
  refine ⟨b, h1, h2, h3, ?_⟩
  subst hp
  simp only [oA, oB] at h4
  refine conI_of hmix hTab Try.func68 rfl rfl (by kernel_rfl) (by show 2 ≤ Try.f68.ntmps; decide) ?_
  refine stp ?_; try with_reducible exact True.intro
  refine useT (copyOf p (by omega)) ?_; try with_reducible exact True.intro
  refine .inr ⟨[6, 3, 4, 0, 1, 5], _, _, _, _, h4, by decide, by repeat (first | exact trivial | refine ⟨by first | rfl | (simp [Obj.ren, frzI, -Int.ofNat_toNat]; done) | (simp [Obj.ren, frzI, V.ren, V.rens, V.cells, EnvV.ev, EnvV.upd, mkE, backL, backN, -Int.ofNat_toNat]; done) | (simp [Obj.ren, frzI, -Int.ofNat_toNat]; omega), ?_⟩), rfl, .inr ⟨rfl, rfl⟩, ?_⟩
  refine stp ?_; try with_reducible exact True.intro
  exact (fitK [] [0, 1, 2, 7])
end Go.Proofs.YtlglchbkenaekaaTv
end
section
open Go Go.Proofs.YtlglchbkenaekaaVe Go.Proofs.YtlglchbkenaekaaTv Go.Proofs
namespace Go.Proofs.YtlglchbkenaekaaTv
set_option maxRecDepth 8000
set_option maxHeartbeats 2000000
theorem idP_small (n : Nat) (hn : n ≤ 6) : ∀ x ∈ idP n, 0 ≤ x ∧ x ≤ 1000 := fun x hx => by
  simp only [idP, List.mem_map, List.mem_range] at hx
  obtain ⟨j, hj, rfl⟩ := hx
  omega
def leastP (g : Int) (ll : List (List Int)) : List (List Int) := leastF ll (allP (2 * g - 2).toNat) (allP (2 * g - 2).toNat).length
theorem LeastPantsI {g : Int} {ll : List (List Int)} (hll : (ll.length : Int) ≤ 1048576) (h : isPants g ll = true) : ConT Try.prog 27 [.i g, .ill ll] (.own 0 0 ll.length) [.arr (.list (.int .i64)) (leastP g ll) true] := by
  obtain ⟨n, hn, _, hn6, _, _, hl9, hrow⟩ := pants_facts h
  have hends : EndsL ll n := fun j hj => ends_of hrow j hj
  have ha := ((allP_facts n).2 hn6).2
  obtain ⟨b, h1, h2, h3, h4⟩ := orders ll n (by omega) hl9 hends (idP n) (idP_length n) (idP_small n hn6)
  have hb : b = leastP g ll := by
    rw [least_eq ha] at h1
    injection h1 with h1
    rw [← h1, leastP, show (2 * g - 2).toNat = n by omega]
  subst hb
  refine conT_of hmix hTab Try.func27 rfl rfl (by kernel_rfl) (by show 2 ≤ Try.f27.ntmps; decide) ?_
  refine stp ?_; try with_reducible exact True.intro
  refine useT ((IsPantsI g ll hll).toT) ?_; try with_reducible exact True.intro
  refine brF (by rw [h]; rfl) ?_
  refine stp ?_; try with_reducible exact True.intro
  rw [hn]
  refine useT (identity n (by omega)) ?_; try with_reducible exact True.intro
  refine useI [0, 1, 2] (h4) ?_; try with_reducible exact True.intro
  exact (fitK [] [3])
theorem LeastPantsI0 {g : Int} {ll : List (List Int)} (hll : (ll.length : Int) ≤ 1048576) (h : isPants g ll = false) : ConT Try.prog 27 [.i g, .ill ll] (.nil .unit) [] := by
  refine conT_of hmix hTab Try.func27 rfl rfl (by kernel_rfl) (by show 2 ≤ Try.f27.ntmps; decide) ?_
  refine stp ?_; try with_reducible exact True.intro
  refine useT ((IsPantsI g ll hll).toT) ?_; try with_reducible exact True.intro
  refine brT (by rw [h]; rfl) ?_
  refine stp ?_; try with_reducible exact True.intro
  exact (fitK [] [])
end Go.Proofs.YtlglchbkenaekaaTv
end
section
open Go Go.Proofs.YtlglchbkenaekaaVe Go.Proofs.YtlglchbkenaekaaTv Go.Proofs
namespace Go.Proofs.YtlglchbkenaekaaTv
set_option maxRecDepth 8000
set_option maxHeartbeats 2000000
def setE (ll : List (List Int)) (p : Nat × Nat) (x : Int) : List (List Int) := ll.set p.1 ((ll.getD p.1 []).set p.2 x)
def normE (r : List Int) : List Int := [min (rd r 0) (rd r 1), max (rd r 0) (rd r 1)]
def endA (ll : List (List Int)) (e : Nat) : Nat × Nat := (ends ll (rd (rdR ll e) 0) e ll.length).getD 1 (0, 0)
def endB (ll : List (List Int)) (e way : Nat) : Nat × Nat := (ends ll (rd (rdR ll e) 1) e ll.length).getD way (0, 0)
def swp0 (ll : List (List Int)) (e way : Nat) : List (List Int) := setE (setE ll (endA ll e) (rd (rdR ll e) 1)) (endB ll e way) (rd (rdR ll e) 0)
def swp (ll : List (List Int)) (e way : Nat) : List (List Int) := (swp0 ll e way).map normE
@[simp] theorem setE_length (ll : List (List Int)) (p : Nat × Nat) (x : Int) : (setE ll p x).length = ll.length := by simp [setE]
theorem getD_in {α : Type} {l : List α} {i : Nat} {d : α} (h : i < l.length) : l.getD i d ∈ l := by
  rw [List.getD_eq_getElem?_getD, List.getElem?_eq_getElem h]
  exact List.getElem_mem h
theorem rowLen_setE {ll : List (List Int)} {p : Nat × Nat} {x : Int} (h : ∀ r ∈ ll, r.length = 2) (hp : p.1 < ll.length) : ∀ r ∈ setE ll p x, r.length = 2 := fun r hr => by
  rcases List.mem_or_eq_of_mem_set hr with h1 | h1
  · exact h r h1
  · rw [h1, List.length_set]
    exact h _ (getD_in hp)
structure SwpF (ll : List (List Int)) (e way : Nat) : Prop where
  len : ll.length ≤ 9
  row : ∀ r ∈ ll, r.length = 2
  lu : (ends ll (rd (rdR ll e) 0) e ll.length).length = 2
  lv : (ends ll (rd (rdR ll e) 1) e ll.length).length = 2
  a1 : (endA ll e).1 < ll.length
  a2 : (endA ll e).2 < 2
  b1 : (endB ll e way).1 < ll.length
  b2 : (endB ll e way).2 < 2
theorem swp_facts {g : Int} {ll : List (List Int)} (h : isPants g ll = true) {e way : Nat} (he : e < ll.length) (hne : rd (rdR ll e) 0 ≠ rd (rdR ll e) 1) (hw : way < 2) : SwpF ll e way := by
  obtain ⟨n, hn, n2, n6, hg, hlen, hl9, hok⟩ := pants_facts h
  have l1 := ends_two h he hne (.inl rfl)
  have l2 := ends_two h he hne (.inr rfl)
  have e1 := endsF_in (v := rd (rdR ll e) 0) (but := (e : Int)) 0 (ll.take ll.length) _ (getD_in (d := (0, 0)) (i := 1) (by unfold ends at l1; omega))
  have e2 := endsF_in (v := rd (rdR ll e) 1) (but := (e : Int)) 0 (ll.take ll.length) _ (getD_in (d := (0, 0)) (i := way) (by unfold ends at l2; omega))
  rw [List.take_length] at e1 e2
  refine ⟨hl9, fun r hr => ?_, l1, l2, ?_, ?_, ?_, ?_⟩
  · obtain ⟨j, hj⟩ := List.mem_iff_getElem?.1 hr
    have h1 := (List.getElem?_eq_some_iff.1 hj).1
    have := (rowOk_facts (hok j h1)).1
    rwa [show rdR ll j = r by simp [rdR, hj]] at this
  · simpa [endA, ends] using e1.2.1
  · simpa [endA, ends] using e1.2.2
  · simpa [endB, ends] using e2.2.1
  · simpa [endB, ends] using e2.2.2
theorem encE_div {p : Nat × Nat} (h : p.2 < 2) : Int.tdiv (encE p) 2 = p.1 ∧ Int.tmod (encE p) 2 = p.2 := by
  unfold encE
  rw [Int.tdiv_eq_ediv_of_nonneg (by omega), Int.tmod_eq_emod_of_nonneg (by omega)]
  omega
theorem rd_map {l : List (Nat × Nat)} {i : Nat} (h : i < l.length) : rd (l.map encE) i = encE (l.getD i (0, 0)) := by
  simp [rd, h]
theorem l19Swap (ll : List (List Int)) (e way : Nat) (hF : SwpF ll e way) (he : e < ll.length) (hw : way < 2) : ConT Try.prog 63 [.ill ll, .i e, .i way] (.own 0 0 ll.length) [.arr (.list (.int .i64)) (swp ll e way) true] := by
  refine conT_of hmix hTab Try.func63 rfl rfl (by kernel_rfl) (by show 3 ≤ Try.f63.ntmps; decide) ?_
  obtain ⟨hl9, hrow, lu, lv, a1, a2, b1, b2⟩ := hF
  have hr : ∀ j : Nat, j < ll.length → (rdR ll j).length = 2 := fun j hj => hrow _ (by simp [rdR, hj])
  have hre := hr e he
  have ql : List.length (rdT (.list (.int .i64)) ll (e : Int)) = (rdR ll e).length := rfl; have q0 : @Eq Int (rdT (.int .i64) (rdT (.list (.int .i64)) ll (e : Int)) 0) (rd (rdR ll e) 0) := rfl; have q1 : @Eq Int (rdT (.int .i64) (rdT (.list (.int .i64)) ll (e : Int)) 1) (rd (rdR ll e) 1) := rfl; have qlo : List.length (rdT (.list (.int .i64)) ll (((e : Int).toNat : Nat) : Int)) = (rdR ll e).length := rfl; have q0o : @Eq Int (rdT (.int .i64) (rdT (.list (.int .i64)) ll (((e : Int).toNat : Nat) : Int)) 0) (rd (rdR ll e) 0) := rfl; have q1o : @Eq Int (rdT (.int .i64) (rdT (.list (.int .i64)) ll (((e : Int).toNat : Nat) : Int)) 1) (rd (rdR ll e) 1) := rfl
  refine stp ?_; try with_reducible exact True.intro
  refine useT (l19Ends ll (rd (rdR ll e) 0) e hl9 hr) ?_; try with_reducible exact True.intro
  refine useT (l19Ends ll (rd (rdR ll e) 1) e hl9 hr) ?_; try with_reducible exact True.intro
  have ha : @Eq Int (rdT (.int .i64) (List.map encE (ends ll (rd (rdR ll e) 0) e ll.length)) ((Int.toNat 1 : Nat) : Int)) (encE (endA ll e)) := rd_map (by omega)
  have hb : @Eq Int (rdT (.int .i64) (List.map encE (ends ll (rd (rdR ll e) 1) e ll.length)) ((Int.toNat (way : Int) : Nat) : Int)) (encE (endB ll e way)) := rd_map (by omega)
  simp only [ha, hb]
  obtain ⟨da, ma⟩ := encE_div a2
  obtain ⟨db, mb⟩ := encE_div b2
  have hswp : swp ll e way = (setE (setE ll (endA ll e) (rd (rdR ll e) 1)) (endB ll e way) (rd (rdR ll e) 0)).map normE := rfl
  rw [hswp]
  generalize endA ll e = a at *
  generalize endB ll e way = b at *
  have hrl : ∀ r ∈ ll, (r.length : Int) ≤ 274877906944 := fun r hr => by have := hrow r hr; omega
  refine useT (l5Copy ll (by omega) hrl) ?_; try with_reducible exact True.intro
  simp only [da, ma]
  have hga : (ll.getD ((a.1 : Nat) : Int).toNat []).length = 2 := hrow _ (getD_in a1)
  have hna : ∀ {p : Prop}, ll.getD ((a.1 : Nat) : Int).toNat [] = [] → p := fun he => by rw [he] at hga; cases hga
  have hL1 := rowLen_setE (x := rd (rdR ll e) 1) hrow a1
  have hL1l := setE_length ll a (rd (rdR ll e) 1)
  have hgb : ((setE ll a (rd (rdR ll e) 1)).getD ((b.1 : Nat) : Int).toNat []).length = 2 := hL1 _ (getD_in (by omega))
  refine .inr ⟨by first | rfl | trivial, by omega, ⟨fun he => hna he, ?_⟩⟩
  refine stp ?_; try with_reducible exact True.intro
  simp only [ma]
  refine stp ?_; try with_reducible exact True.intro
  have hset : List.set ll ((a.1 : Nat) : Int).toNat (List.set (ll.getD ((a.1 : Nat) : Int).toNat []) ((a.2 : Nat) : Int).toNat (rdT (.int .i64) (rdT (.list (.int .i64)) ll (e : Int)) 1)) = setE ll a (rd (rdR ll e) 1) := rfl
  simp only [db]
  refine .inr ⟨_, rfl, rfl, by simp, by simp, ?_⟩
  rw [hset]
  generalize setE ll a (rd (rdR ll e) 1) = L1 at *
  refine ⟨by simp; omega, ⟨fun he => absurd hgb (by rw [he]; decide), ?_⟩⟩
  refine stp ?_; try with_reducible exact True.intro
  simp only [mb]
  refine stp ?_; try with_reducible exact True.intro
  have hL2 := rowLen_setE (x := rd (rdR ll e) 0) hL1 (by omega : b.1 < L1.length)
  have hL2l := setE_length L1 b (rd (rdR ll e) 0)
  have hset2 : L1.set ((b.1 : Nat) : Int).toNat ((L1.getD ((b.1 : Nat) : Int).toNat []).set ((b.2 : Nat) : Int).toNat (rdT (.int .i64) (rdT (.list (.int .i64)) ll (e : Int)) 0)) = setE L1 b (rd (rdR ll e) 0) := rfl
  generalize hLL : setE L1 b (rd (rdR ll e) 0) = L2 at *
  refine ⟨Nat, fun k => k ≤ L2.length, fun k => L2.length - k, fun k => [(11, .own 0 0 ll.length), (12, .i k)], fun k => [.arr (.list (.int .i64)) ((L2.take k).map normE ++ L2.drop k) true], ⟨0, ⟨.jn 2 ⟨Nat.zero_le _, _, rfl, rfl, by simp, by simp, rfl⟩ (.frz []), [2], ⟨rfl, rfl, trivial⟩, ⟨?_, trivial⟩, by decide, rfl, rfl, rfl⟩, Nat.zero_le _⟩, fun k hk => ?_⟩
  · show some (Obj.arr (.list (.int .i64)) (L1.set ((b.1 : Nat) : Int).toNat ((L1.getD ((b.1 : Nat) : Int).toNat []).set ((b.2 : Nat) : Int).toNat (rdT (.int .i64) (rdT (.list (.int .i64)) ll (e : Int)) 0))) true) = _
    rw [hset2]
    simp [Obj.ren]
  dsimp only at hk ⊢
  have hlen : ((L2.take k).map normE ++ L2.drop k).length = ll.length := by simp; omega
  refine stp ?_; try with_reducible exact True.intro
  refine Br.mk (fun h2 => ?_) (fun h2 => ?_) <;> simp [-Int.ofNat_toNat] at h2
  · have hg : ((L2.take k).map normE ++ L2.drop k).getD (k : Int).toNat [] = rdR L2 k := by
      show ((L2.take k).map normE ++ L2.drop k).getD k [] = _
      rw [drop_consR (by omega), List.getD_eq_getElem?_getD, List.getElem?_append_right (by simp; omega)]
      simp [show k - min k L2.length = 0 by omega]
    have hg2 : (rdR L2 k).length = 2 := hL2 _ (by simp [rdR, show k < L2.length by omega])
    refine stp ?_; try with_reducible exact True.intro
    refine .inr ⟨by first | rfl | trivial, by omega, ⟨fun he => absurd hg2 (by rw [← hg, he]; decide), ?_⟩⟩
    simp only [hg]
    refine stp ?_; try with_reducible exact True.intro
    refine .inl ⟨rfl, ?_⟩
    refine stp ?_; try with_reducible exact True.intro
    refine .inl ⟨_, _, l1Min (rd (rdR L2 k) 0) (rd (rdR L2 k) 1), by repeat (first | exact trivial | refine ⟨by first | exact rfl | exact trivial | exact ⟨_, rfl, rfl⟩ | exact ⟨_, _, rfl, by first | (simp; done) | (simp; omega), by first | (simp; done) | (simp [List.take_of_length_le]; done) | (rw [List.drop_zero]; exact List.take_of_length_le (by first | omega | (simp; omega))) | (simp [List.take_of_length_le]; omega)⟩ | exact ⟨_, rfl, by first | (simp; done) | (simp; omega), by first | (simp; done) | (simp [List.take_of_length_le]; done) | (rw [List.drop_zero]; exact List.take_of_length_le (by first | omega | (simp; omega))) | (simp [List.take_of_length_le]; omega)⟩, ?_⟩), ?_⟩; refine stp ?_; try with_reducible exact True.intro
    refine .inl ⟨rfl, ?_⟩
    refine stp ?_; try with_reducible exact True.intro
    refine .inl ⟨rfl, ?_⟩
    refine stp ?_; try with_reducible exact True.intro
    refine .inl ⟨_, _, l1Max (rd (rdR L2 k) 0) (rd (rdR L2 k) 1), by repeat (first | exact trivial | refine ⟨by first | exact rfl | exact trivial | exact ⟨_, rfl, rfl⟩ | exact ⟨_, _, rfl, by first | (simp; done) | (simp; omega), by first | (simp; done) | (simp [List.take_of_length_le]; done) | (rw [List.drop_zero]; exact List.take_of_length_le (by first | omega | (simp; omega))) | (simp [List.take_of_length_le]; omega)⟩ | exact ⟨_, rfl, by first | (simp; done) | (simp; omega), by first | (simp; done) | (simp [List.take_of_length_le]; done) | (rw [List.drop_zero]; exact List.take_of_length_le (by first | omega | (simp; omega))) | (simp [List.take_of_length_le]; omega)⟩, ?_⟩), ?_⟩; refine stp ?_; try with_reducible exact True.intro
    have hset3 : ((L2.take k).map normE ++ L2.drop k).set (k : Int).toNat (normE (rdR L2 k)) = (L2.take (k + 1)).map normE ++ L2.drop (k + 1) := by
      show ((L2.take k).map normE ++ L2.drop k).set k (normE (rdR L2 k)) = _
      rw [take_succR (by omega), drop_consR (by omega), List.map_append, List.set_append_right _ _ (by simp; omega)]
      simp [show k - min k L2.length = 0 by omega]
    refine ⟨k + 1, ⟨.frz [], [0], ⟨rfl, rfl, trivial⟩, ⟨?_, trivial⟩, by decide, rfl, rfl, rfl⟩, by first | ((try dsimp only); omega) | (simp; omega), by first | ((try dsimp only); omega) | (simp; omega)⟩
    rw [← hset3]
    rfl
  · obtain rfl : k = L2.length := by omega
    refine stp ?_; try with_reducible exact True.intro
    exact (fitK [] [0])
end Go.Proofs.YtlglchbkenaekaaTv
end
section
open Go Go.Proofs.YtlglchbkenaekaaVe Go.Proofs.YtlglchbkenaekaaTv Go.Proofs
namespace Go.Proofs.YtlglchbkenaekaaTv
set_option maxRecDepth 8000
set_option maxHeartbeats 2000000
def swapOk (g : Int) (ll : List (List Int)) (e way : Int) : Bool := isPants g ll && (decide (0 ≤ e ∧ e ≤ (ll.length : Int) - 1) && (decide (0 ≤ way ∧ way ≤ 1) && decide (rd (rdR ll e) 0 ≠ rd (rdR ll e) 1)))
theorem SwapEndsS (g : Int) (ll : List (List Int)) (e way : Int) (hll : (ll.length : Int) ≤ 1048576) : ConT Try.prog 23 [.i g, .ill ll, .i e, .i way] (.tup [.own 0 0 (if swapOk g ll e way = true then ll.length else 0), .b (swapOk g ll e way)]) [.arr (.list (.int .i64)) (if swapOk g ll e way = true then swp ll e.toNat way.toNat else []) true] := by
  refine conT_of hmix hTab Try.func23 rfl rfl (by kernel_rfl) (by show 4 ≤ Try.f23.ntmps; decide) ?_
  have hc := IsPantsS g ll hll
  cases hP : isPants g ll with
  | false =>
    rw [hP] at hc
    rw [show swapOk g ll e way = false by simp [swapOk, hP]]
    refine stp ?_; try with_reducible exact True.intro
    refine useT (hc.toT) ?_; try with_reducible exact True.intro
    refine Or.inl ?_; refine stp ?_; try with_reducible exact True.intro
    exact (fitK [] [0])
  | true =>
    rw [hP] at hc
    obtain ⟨n, hn, n2, n6, hg, hlen, hl9, hok⟩ := pants_facts hP
    by_cases he : 0 ≤ e ∧ e ≤ (ll.length : Int) - 1
    · by_cases hw : 0 ≤ way ∧ way ≤ 1
      · obtain ⟨e, rfl⟩ : ∃ e' : Nat, e = e' := ⟨e.toNat, by omega⟩
        obtain ⟨way, rfl⟩ : ∃ w' : Nat, way = w' := ⟨way.toNat, by omega⟩
        obtain ⟨r1, r2, r3, r4⟩ := rowOk_facts (hok e (by omega))
        have ql : List.length (rdT (.list (.int .i64)) ll (e : Int)) = (rdR ll e).length := rfl; have q0 : @Eq Int (rdT (.int .i64) (rdT (.list (.int .i64)) ll (e : Int)) 0) (rd (rdR ll e) 0) := rfl; have q1 : @Eq Int (rdT (.int .i64) (rdT (.list (.int .i64)) ll (e : Int)) 1) (rd (rdR ll e) 1) := rfl; have qlo : List.length (rdT (.list (.int .i64)) ll (((e : Int).toNat : Nat) : Int)) = (rdR ll e).length := rfl; have q0o : @Eq Int (rdT (.int .i64) (rdT (.list (.int .i64)) ll (((e : Int).toNat : Nat) : Int)) 0) (rd (rdR ll e) 0) := rfl; have q1o : @Eq Int (rdT (.int .i64) (rdT (.list (.int .i64)) ll (((e : Int).toNat : Nat) : Int)) 1) (rd (rdR ll e) 1) := rfl
        refine stp ?_; try with_reducible exact True.intro
        refine useT (hc.toT) ?_; try with_reducible exact True.intro
        refine useT ((l1In e 0 ((ll.length : Int) - 1)).toT) ?_; try with_reducible exact True.intro
        simp only [he, and_self, decide_true]
        refine stp ?_; try with_reducible exact True.intro
        refine useT ((l1In way 0 1).toT) ?_; try with_reducible exact True.intro
        simp only [hw, and_self, decide_true]
        refine stp ?_; try with_reducible exact True.intro
        refine Br.mk (fun h2 => ?_) (fun h2 => ?_) <;> simp only [decide_eq_true_eq, decide_eq_false_iff_not, ne_eq, Decidable.not_not, Bool.not_eq_eq_eq_not, Bool.not_true, Bool.not_false] at h2
        · replace h2 : rd (rdR ll e) 0 = rd (rdR ll e) 1 := h2
          rw [show swapOk g ll e way = false by simp [swapOk, h2]]
          refine stp ?_; try with_reducible exact True.intro
          refine Or.inl ?_; refine stp ?_; try with_reducible exact True.intro
          exact (fitK [] [0])
        · replace h2 : rd (rdR ll e) 0 ≠ rd (rdR ll e) 1 := h2
          rw [show swapOk g ll e way = true by simp [swapOk, hP, he, hw, h2]]
          have hs := l19Swap ll e way (swp_facts hP (by omega) h2 (by omega)) (by omega) (by omega)
          refine stp ?_; try with_reducible exact True.intro
          refine useT (hs) ?_; try with_reducible exact True.intro
          exact (fitK [] [0])
      · rw [show swapOk g ll e way = false by simp only [swapOk, hw, decide_false, Bool.false_and, Bool.and_false]]
        refine stp ?_; try with_reducible exact True.intro
        refine useT (hc.toT) ?_; try with_reducible exact True.intro
        refine useT ((l1In e 0 ((ll.length : Int) - 1)).toT) ?_; try with_reducible exact True.intro
        simp only [he, and_self, decide_true]
        refine stp ?_; try with_reducible exact True.intro
        refine useT ((l1In way 0 1).toT) ?_; try with_reducible exact True.intro
        simp only [hw, decide_false]
        refine stp ?_; try with_reducible exact True.intro
        refine Or.inl ?_; refine stp ?_; try with_reducible exact True.intro
        exact (fitK [] [0])
    · rw [show swapOk g ll e way = false by simp only [swapOk, he, decide_false, Bool.false_and, Bool.and_false]]
      refine stp ?_; try with_reducible exact True.intro
      refine useT (hc.toT) ?_; try with_reducible exact True.intro
      refine useT ((l1In e 0 ((ll.length : Int) - 1)).toT) ?_; try with_reducible exact True.intro
      simp only [he, decide_false]
      refine stp ?_; try with_reducible exact True.intro
      refine Or.inl ?_; refine stp ?_; try with_reducible exact True.intro
      exact (fitK [] [0])
end Go.Proofs.YtlglchbkenaekaaTv
end
