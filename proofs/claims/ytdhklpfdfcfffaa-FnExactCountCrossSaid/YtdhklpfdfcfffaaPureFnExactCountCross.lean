/- The program and the reference agree for all arguments (CountCross); no condition. -/
import Derived.Test.YtdhklpfdfcfffaaPFnExactCountCrossx11
namespace Go.Proofs.Ytdhklpfdfcfffaa.Pure
open Go.RowKit Go.Proofs.Ytdhklpfdfcfffaa.PFnExactCountCross Go.Proofs.YtdhklpfdfcfffaaW.PrintWords Go.Proofs.YtdhklpfdfcfffaaW.PrintLast Go.Proofs.YtdhklpfdfcfffaaW.PrintMore
set_option linter.unusedVariables false
set_option linter.unusedSimpArgs false

theorem ge_dec (a b c : Int) : (if a ≥ b then some (decide (a ≤ c)) else some false) = some (decide (b ≤ a ∧ a ≤ c)) := by
  split
  · next h => have h' : b ≤ a := h; simp [h']
  · next h => have h' : ¬ b ≤ a := h; simp [h']
theorem w64 {n : Int} (h0 : -9223372036854775808 ≤ n) (h1 : n ≤ 9223372036854775807) : wrap64 n = n := by
  unfold wrap64; omega

section
variable {α β : Type}
theorem ev_pos {c : Prop} [Decidable c] {A B : Nat → Option α} {r : α} (hc : c) (h : Ev A r) : Ev (fun k => if c then A k else B k) r := by simp only [if_pos hc]; exact h
theorem ev_neg {c : Prop} [Decidable c] {A B : Nat → Option α} {r : α} (hc : ¬ c) (h : Ev B r) : Ev (fun k => if c then A k else B k) r := by simp only [if_neg hc]; exact h
theorem ev_ite {c : Prop} [Decidable c] {A B : Nat → Option α} {r : α} (h1 : c → Ev A r) (h2 : ¬ c → Ev B r) : Ev (fun k => if c then A k else B k) r := by
  by_cases hc : c
  · exact ev_pos hc (h1 hc)
  · exact ev_neg hc (h2 hc)
theorem ev_val {x : Option β} {F : Nat → β → Option α} {a : β} {r : α} (hx : x = some a) (h : Ev (fun k => F k a) r) : Ev (fun k => x.bind (F k)) r := by subst hx; exact h
theorem ev_ret {r s : α} (h : r = s) : Ev (fun _ => some r) s := by subst h; exact Ev.now _
theorem ev_of {x : Option α} {r : α} (h : x = some r) : Ev (fun _ => x) r := by subst h; exact Ev.now _
theorem ev_bind {g : Nat → Option β} {F : Nat → β → Option α} {a : β} {r : α} (h : Ev g a) (k : Ev (fun n => F n a) r) : Ev (fun n => (g n).bind (F n)) r := Ev.bind h k
theorem ev_at {g : Nat → Option α} {r : α} (hg : ∀ k, LeO (g k) (g (k + 1))) (k : Nat) (h : g k = some r) : Ev g r := Ev.of hg h
end
theorem ev_eq {α : Type} {g : Nat → Option α} {r s : α} (h : Ev g r) (e : r = s) : Ev g s := e ▸ h
theorem ev_fun {α : Type} {g f : Nat → Option α} {r : α} (h : Ev f r) (e : ∀ k, g k = f k) : Ev g r := Ev.congr e h
theorem ev_unique {α : Type} {g : Nat → Option α} {r s : α} (h : Ev g r) (h' : Ev g s) : r = s := by
  obtain ⟨K, h⟩ := h
  obtain ⟨K', h'⟩ := h'
  have a := h (max K K') (by omega)
  have b := h' (max K K') (by omega)
  rw [a] at b
  exact Option.some.inj b

theorem rd_app (l : List Int) (x : Int) (m : List Int) : rd (l ++ x :: m) (l.length : Int) = x := by simp [rd]
theorem set_app (l : List Int) (x y : Int) (m : List Int) : (l ++ x :: m).set ((l.length : Int).toNat) y = l ++ y :: m := by simp
theorem len_snoc (l : List Int) (x : Int) : (((l ++ [x]).length : Nat) : Int) = (l.length : Int) + 1 := by simp

theorem eqIntS_l0 (p : List Int) : ∀ (a q b : List Int), p.length = q.length → a.length = b.length → (p ++ a).length < 9223372036854775807 → Ev (fun k => laws_eqIntS.l0 k (p ++ a) (q ++ b) p.length) (decide (a = b)) := by
  intro a
  induction a generalizing p with
  | nil =>
    intro q b hpq hab _
    obtain rfl : b = [] := by cases b; rfl; simp at hab
    refine Ev.step (fun k => by rw [laws_eqIntS.l0]) ?_
    refine ev_neg (by simp) (ev_ret (by simp))
  | cons x a ih =>
    intro q b hpq hab hl
    obtain ⟨y, b, rfl⟩ : ∃ y c, b = y :: c := by cases b with | nil => simp at hab | cons y c => exact ⟨y, c, rfl⟩
    refine Ev.step (fun k => by rw [laws_eqIntS.l0]) ?_
    refine ev_pos (by simp; omega) (ev_pos (by omega) (ev_pos (by simp; omega) ?_))
    have e2 : rd (q ++ y :: b) (p.length : Int) = y := by rw [hpq]; exact rd_app q y b
    rw [rd_app, e2]
    by_cases hxy : x = y
    · subst hxy
      refine ev_pos rfl ?_
      have h := ih (p ++ [x]) (q ++ [x]) b (by simp [hpq]) (by simpa using hab) (by simpa using hl)
      rw [w64 (by omega) (by simp at hl; omega)]
      simp only [List.append_assoc, List.singleton_append, List.length_append, List.length_singleton] at h
      have e : decide (x :: a = x :: b) = decide (a = b) := by simp
      rw [e]
      exact h
    · refine ev_neg hxy (ev_ret (by simp [hxy]))
theorem eqIntS_ev (a b : List Int) (hl : a.length < 9223372036854775807) : Ev (fun k => laws_eqIntS.f k a b) (decide (a = b)) := by
  by_cases h : a.length = b.length
  · have h1 := eqIntS_l0 [] a [] b rfl h (by simpa using hl)
    simp only [List.nil_append] at h1
    refine Ev.congr (f := fun k => laws_eqIntS.l0 k a b 0) (fun k => ?_) h1
    unfold laws_eqIntS.f
    simp [h]
  · unfold laws_eqIntS.f
    have hn : ¬ a = b := fun e => h (by rw [e])
    exact ev_neg (by omega) (ev_ret (by simp [hn]))

theorem i64_lo : IntKind.i64.min = -9223372036854775808 := by decide
theorem i64_hi : IntKind.i64.max = 9223372036854775807 := by decide
theorem wfb {x : Int} (h : (Lit.int .i64 x).wf = true) : -9223372036854775808 ≤ x ∧ x ≤ 9223372036854775807 := by
  have h' : (decide (IntKind.i64.min ≤ x) && decide (x ≤ IntKind.i64.max)) = true := h
  rw [i64_lo, i64_hi] at h'
  simpa using h'
theorem toIntS_l0 : ∀ (q p : List Int) (z : List Int), z.length = q.length → (p ++ q).length < 9000000000000000000 → Ev (fun k => laws_toIntS.l0 k (p ++ q) (p ++ z) p.length) (p ++ q) := by
  intro q
  induction q with
  | nil =>
    intro p z hz hl
    obtain rfl : z = [] := by cases z; rfl; simp at hz
    refine Ev.step (fun k => by rw [laws_toIntS.l0]) ?_
    exact ev_neg (by simp) (ev_ret rfl)
  | cons x q ih =>
    intro p z hz hl
    obtain ⟨y, z, rfl⟩ : ∃ y c, z = y :: c := by cases z with | nil => simp at hz | cons y c => exact ⟨y, c, rfl⟩
    refine Ev.step (fun k => by rw [laws_toIntS.l0]) ?_
    refine ev_pos (by simp; omega) (ev_pos (by omega) (ev_pos (by simp; omega) ?_))
    rw [rd_app, set_app, w64 (by omega) (by simp at hl; omega)]
    have h := ih (p ++ [x]) z (by simpa using hz) (by simpa using hl)
    simp only [List.append_assoc, List.singleton_append, List.length_append, List.length_singleton, Int.natCast_add, Int.natCast_one] at h
    exact h
theorem toIntS_ev (l : List Int) (hl : l.length ≤ 35184372088832) : Ev (fun k => laws_toIntS.f k l) l := by
  have h := toIntS_l0 l [] (List.replicate l.length 0) (by simp) (by simp; omega)
  simp only [List.nil_append] at h
  unfold laws_toIntS.f
  refine ev_pos (by omega) (ev_pos (by simpa using hl) ?_)
  rw [show ((l.length : Int)).toNat = l.length by simp]
  exact h

theorem gcd_step (a b : Int) : (Int.gcd b (Int.tmod a b)) = Int.gcd a b := by
  unfold Int.gcd
  rw [Int.natAbs_tmod, Nat.gcd_comm b.natAbs, ← Nat.gcd_rec, Nat.gcd_comm]
theorem gcd_small {a b : Int} (hb : b ≠ 0) : (Int.tmod a b).natAbs < b.natAbs := by
  rw [Int.natAbs_tmod]
  exact Nat.mod_lt _ (by omega)
def slopeB (p q : Int) : Bool := decide ((-1000 ≤ p ∧ p ≤ 1000) ∧ (0 ≤ q ∧ q ≤ 1000) ∧ Int.gcd p q = 1 ∧ (q > 0 ∨ p = 1))
theorem slopeB_bd {p q : Int} (h : slopeB p q = true) : (-1000 ≤ p ∧ p ≤ 1000) ∧ (0 ≤ q ∧ q ≤ 1000) ∧ Int.gcd p q = 1 ∧ (q > 0 ∨ p = 1) := by
  unfold slopeB at h; exact of_decide_eq_true h

def slopeOfA (p q : Int) : Int × Int × Bool :=
  if (-1000 ≤ p ∧ p ≤ 1000) ∧ (-1000 ≤ q ∧ q ≤ 1000) ∧ ¬ (p = 0 ∧ q = 0) then
    (if q < 0 ∨ (q = 0 ∧ p < 0) then (-(p.tdiv (Int.gcd p q)), -(q.tdiv (Int.gcd p q)), true) else (p.tdiv (Int.gcd p q), q.tdiv (Int.gcd p q), true))
  else (0, 0, false)
theorem tdiv_abs (a : Int) (n : Nat) : (a.tdiv (n : Int)).natAbs ≤ a.natAbs := by
  rw [Int.natAbs_tdiv]
  exact Nat.div_le_self _ _
theorem gcd_pos' {p q : Int} (h : ¬ (p = 0 ∧ q = 0)) : 0 < Int.gcd p q := by
  rcases Nat.eq_zero_or_pos (Int.gcd p q) with h0 | h0
  · rw [Int.gcd_eq_zero_iff] at h0
    exact absurd h0 h
  · exact h0
theorem tdiv_sign {a : Int} {n : Nat} (hn : 0 < n) (hd : (n : Int) ∣ a) : (a.tdiv (n : Int) < 0 ↔ a < 0) ∧ (a.tdiv (n : Int) = 0 ↔ a = 0) := by
  obtain ⟨c, rfl⟩ := hd
  rw [Int.mul_tdiv_cancel_left c (by omega)]
  have hn' : (0 : Int) < (n : Int) := by omega
  refine ⟨⟨fun h => ?_, fun h => ?_⟩, ⟨fun h => ?_, fun h => ?_⟩⟩
  · exact Int.mul_neg_of_pos_of_neg hn' h
  · rcases (by omega : c < 0 ∨ 0 ≤ c) with hc | hc
    · exact hc
    · have := Int.mul_nonneg (Int.le_of_lt hn') hc
      omega
  · rw [h]; simp
  · rcases Int.mul_eq_zero.mp h with h | h
    · omega
    · exact h

theorem sMax (a b : Int) : spec_l1Max.f a b = some (mx b a) := by
  unfold spec_l1Max.f mx; by_cases h : b < a
  · rw [if_pos h, if_pos h]
  · rw [if_neg h, if_neg h]

theorem sAbs {x : Int} (h0 : -9223372036854775807 ≤ x) (h1 : x ≤ 9223372036854775807) : spec_l3Abs.f x = some (x.natAbs : Int) := by
  unfold spec_l3Abs.f
  rw [sMax, w64 (by omega) (by omega)]
  simp only [Option.bind_some]
  congr 1
  unfold mx
  split <;> omega
theorem sAbs_min : spec_l3Abs.f (-9223372036854775808) = some (-9223372036854775808) := by decide +kernel

theorem sGcd_l0 : ∀ (n : Nat) (a b : Int), b.natAbs < n → -1000000000000 ≤ a → a ≤ 1000000000000 → -1000000000000 ≤ b → b ≤ 1000000000000 → Ev (fun k => spec_l11Gcd.l0 k a b) (Int.gcd a b : Int) := by
  intro n
  induction n with
  | zero => intro a b h; omega
  | succ n ih =>
    intro a b hn ha0 ha1 hb0 hb1
    refine Ev.step (fun k => by rw [spec_l11Gcd.l0]) ?_
    by_cases hb : b = 0
    · subst hb
      refine ev_pos rfl (ev_val (sAbs (by omega) (by omega)) (ev_ret ?_))
      simp
    · have hs := gcd_small (a := a) hb
      have h := ih b (Int.tmod a b) (by omega) hb0 hb1 (by omega) (by omega)
      rw [gcd_step] at h
      exact ev_neg hb h
theorem sGcd (a b : Int) (ha0 : -1000000000000 ≤ a) (ha1 : a ≤ 1000000000000) (hb0 : -1000000000000 ≤ b) (hb1 : b ≤ 1000000000000) : Ev (fun k => spec_l11Gcd.f k a b) (Int.gcd a b : Int) :=
  sGcd_l0 (b.natAbs + 1) a b (by omega) ha0 ha1 hb0 hb1

theorem in_eq (a b c : Int) : spec_l1In.f a b c = some (decide (b ≤ a ∧ a ≤ c)) := by
  unfold spec_l1In.f; exact ge_dec a b c

theorem sSlopeOf (p q : Int) : Ev (fun k => spec_SlopeOf.f k p q) (slopeOfA p q) := by
  unfold spec_SlopeOf.f
  have bad : ¬ ((-1000 ≤ p ∧ p ≤ 1000) ∧ (-1000 ≤ q ∧ q ≤ 1000) ∧ ¬ (p = 0 ∧ q = 0)) → Ev (fun k => spec_SlopeOf.j0 k p q true) (slopeOfA p q) := by
    intro h
    refine Ev.step (fun k => by rw [spec_SlopeOf.j0]) (ev_pos rfl (ev_ret ?_))
    unfold slopeOfA; rw [if_neg h]
  refine ev_val (in_eq _ _ _) ?_
  by_cases h1 : -1000 ≤ p ∧ p ≤ 1000
  · refine ev_pos (by simpa using h1) (ev_val (in_eq _ _ _) ?_)
    by_cases h2 : -1000 ≤ q ∧ q ≤ 1000
    · refine ev_pos (by simpa using h2) ?_
      by_cases h3 : p = 0 ∧ q = 0
      · refine ev_pos h3.1 ?_
        have : (q == 0) = true := by simp [h3.2]
        rw [this]
        exact bad (fun h => h.2.2 h3)
      · have e : Ev (fun k => spec_SlopeOf.j0 k p q false) (slopeOfA p q) := by
          refine Ev.step (fun k => by rw [spec_SlopeOf.j0]) (ev_neg (by simp) (ev_bind (sGcd p q (by omega) (by omega) (by omega) (by omega)) ?_))
          have hg := gcd_pos' h3
          have hle : (Int.gcd p q : Int) ≤ 1000 := by
            by_cases hq : q = 0
            · subst hq; simp; omega
            · have := Nat.le_of_dvd (by omega) (Nat.gcd_dvd_right p.natAbs q.natAbs)
              unfold Int.gcd
              omega
          have hp := tdiv_abs p (Int.gcd p q)
          have hq := tdiv_abs q (Int.gcd p q)
          have eA : slopeOfA p q = (if q < 0 ∨ (q = 0 ∧ p < 0) then (-(p.tdiv (Int.gcd p q)), -(q.tdiv (Int.gcd p q)), true) else (p.tdiv (Int.gcd p q), q.tdiv (Int.gcd p q), true)) := by
            unfold slopeOfA; rw [if_pos ⟨h1, h2, h3⟩]
          rw [eA]
          have e1 : wrap64 (-(Int.gcd p q : Int)) = -(Int.gcd p q : Int) := w64 (by omega) (by omega)
          have e2 : wrap64 (p.tdiv (-(Int.gcd p q : Int))) = -(p.tdiv (Int.gcd p q)) := by rw [Int.tdiv_neg]; exact w64 (by omega) (by omega)
          have e3 : wrap64 (q.tdiv (-(Int.gcd p q : Int))) = -(q.tdiv (Int.gcd p q)) := by rw [Int.tdiv_neg]; exact w64 (by omega) (by omega)
          have e4 : wrap64 (p.tdiv (Int.gcd p q)) = p.tdiv (Int.gcd p q) := w64 (by omega) (by omega)
          have e5 : wrap64 (q.tdiv (Int.gcd p q)) = q.tdiv (Int.gcd p q) := w64 (by omega) (by omega)
          simp only [e1, e2, e3, e4, e5]
          by_cases h4 : q < 0
          · rw [if_pos (Or.inl h4)]
            exact ev_pos h4 (ev_neg (by omega) (ev_ret rfl))
          · refine ev_neg h4 ?_
            by_cases h5 : q = 0
            · refine ev_pos h5 ?_
              by_cases h6 : p < 0
              · rw [if_pos (Or.inr ⟨h5, h6⟩)]
                exact ev_pos h6 (ev_neg (by omega) (ev_ret rfl))
              · rw [if_neg (show ¬ (q < 0 ∨ (q = 0 ∧ p < 0)) by omega)]
                exact ev_neg h6 (ev_neg (by omega) (ev_ret rfl))
            · rw [if_neg (show ¬ (q < 0 ∨ (q = 0 ∧ p < 0)) by omega)]
              exact ev_neg h5 (ev_neg (by omega) (ev_ret rfl))
        by_cases h4 : p = 0
        · refine ev_pos h4 ?_
          have : (q == 0) = false := by simp; exact fun h => h3 ⟨h4, h⟩
          rw [this]; exact e
        · exact ev_neg h4 e
    · exact ev_neg (by simpa using h2) (bad (fun h => h2 h.2.1))
  · exact ev_neg (by simpa using h1) (bad (fun h => h1 h.1))

def isLet (x : Int) : Bool := decide ((1 ≤ x ∧ x ≤ 8) ∨ (-8 ≤ x ∧ x ≤ -1))
def isWordB (w : List Int) : Bool := w.all isLet && decide (w.length ≤ 24)
theorem isWordB_bd {w : List Int} (h : isWordB w = true) : (∀ x ∈ w, -8 ≤ x ∧ x ≤ 8 ∧ x ≠ 0) ∧ w.length ≤ 24 := by
  unfold isWordB at h
  simp only [Bool.and_eq_true, List.all_eq_true, decide_eq_true_eq] at h
  refine ⟨fun x hx => ?_, h.2⟩
  have := h.1 x hx
  unfold isLet at this
  have := of_decide_eq_true this
  omega

def lStep (out : List Int) (x : Int) : List Int := if x > 0 then out.set (x - 1).toNat (wrap64 (rd out (x - 1) + 1)) else out.set (-x - 1).toNat (wrap64 (rd out (-x - 1) - 1))
def lsum (w : List Int) : List Int := w.foldl lStep (List.replicate 8 0)
theorem lStep_len (out : List Int) (x : Int) : (lStep out x).length = out.length := by unfold lStep; split <;> simp
theorem lsum_len (w : List Int) : (lsum w).length = 8 := by
  have : ∀ (w out : List Int), (w.foldl lStep out).length = out.length := by
    intro w
    induction w with
    | nil => intro out; rfl
    | cons x w ih => intro out; rw [List.foldl_cons, ih, lStep_len]
  unfold lsum
  rw [this]; simp

theorem sLetter (x : Int) : spec_l2Letter.f x = some (isLet x) := by
  unfold spec_l2Letter.f isLet
  rw [in_eq, in_eq]
  simp only [Option.bind_some, decide_eq_true_eq]
  by_cases h : 1 ≤ x ∧ x ≤ 8
  · rw [if_pos h]; simp [h]
  · rw [if_neg h]; simp [h]
theorem sIsWord_l0 : ∀ (q p : List Int), (p ++ q).length < 9000000000000000000 → Ev (fun k => spec_IsWord.l0 k (p ++ q) p.length) (q.all isLet && decide ((p ++ q).length ≤ 24)) := by
  intro q
  induction q with
  | nil =>
    intro p hl
    refine Ev.step (fun k => by rw [spec_IsWord.l0]) ?_
    refine ev_neg (by simp) (ev_ret ?_)
    simp; omega
  | cons x q ih =>
    intro p hl
    refine Ev.step (fun k => by rw [spec_IsWord.l0]) ?_
    refine ev_pos (by simp; omega) (ev_pos (by omega) ?_)
    rw [rd_app, w64 (by omega) (by simp at hl; omega)]
    refine ev_val (sLetter x) ?_
    have h := ih (p ++ [x]) (by simpa using hl)
    simp only [List.append_assoc, List.singleton_append, List.length_append, List.length_singleton, Int.natCast_add, Int.natCast_one] at h
    cases hx : isLet x
    · exact ev_neg (by simp) (ev_ret (by simp [hx]))
    · refine ev_pos rfl (ev_eq h ?_)
      simp [hx]
theorem sIsWord (w : List Int) (hl : w.length < 9000000000000000000) : Ev (fun k => spec_IsWord.f k w) (isWordB w) := by
  have h := sIsWord_l0 w [] (by simpa using hl)
  simp only [List.nil_append] at h
  exact h

theorem sLsum_l0 : ∀ (q p out : List Int), (∀ x ∈ p ++ q, -8 ≤ x ∧ x ≤ 8 ∧ x ≠ 0) → (p ++ q).length ≤ 1000000 → out.length = 8 → Ev (fun k => spec_LetterSums.l0 k (p ++ q) out p.length) (q.foldl lStep out) := by
  intro q
  induction q with
  | nil =>
    intro p out hb hl ho
    refine Ev.step (fun k => by rw [spec_LetterSums.l0]) ?_
    exact ev_neg (by simp) (ev_ret rfl)
  | cons x q ih =>
    intro p out hb hl ho
    have hx := hb x (by simp)
    have h := ih (p ++ [x]) (lStep out x) (by simpa using hb) (by simpa using hl) (by rw [lStep_len, ho])
    rw [List.append_assoc, List.singleton_append, len_snoc] at h
    rw [List.foldl_cons]
    refine Ev.step (fun k => by rw [spec_LetterSums.l0]) ?_
    refine ev_pos (by simp; omega) (ev_pos (by omega) ?_)
    rw [rd_app, w64 (n := (p.length : Int) + 1) (by omega) (by simp at hl; omega)]
    by_cases hp : x > 0
    · rw [w64 (n := x - 1) (by omega) (by omega)]
      refine ev_pos hp (ev_pos (by omega) (ev_pos (by omega) ?_))
      have e : lStep out x = out.set (x - 1).toNat (wrap64 (rd out (x - 1) + 1)) := by unfold lStep; rw [if_pos hp]
      rw [e] at h ⊢
      exact h
    · rw [w64 (n := -x) (by omega) (by omega), w64 (n := -x - 1) (by omega) (by omega)]
      refine ev_neg hp (ev_pos (by omega) (ev_pos (by omega) ?_))
      have e : lStep out x = out.set (-x - 1).toNat (wrap64 (rd out (-x - 1) - 1)) := by unfold lStep; rw [if_neg hp]
      rw [e] at h ⊢
      exact h
theorem sLsum (w : List Int) (hw : isWordB w = true) : Ev (fun k => spec_LetterSums.f k w) (lsum w) := by
  have b := isWordB_bd hw
  unfold spec_LetterSums.f
  refine ev_bind (sIsWord w (by omega)) (ev_pos hw (ev_pos (by decide) ?_))
  have h := sLsum_l0 w [] (List.replicate 8 0) (by simpa using b.1) (by simp; omega) (by simp)
  simp only [List.nil_append] at h
  exact h

def twoLet (x : Int) : Bool := decide (-2 ≤ x ∧ x ≤ 2)
def fitsB (w : List Int) : Bool := isWordB w && w.all twoLet
theorem fitsB_bd {w : List Int} (h : fitsB w = true) : isWordB w = true ∧ (∀ x ∈ w, -2 ≤ x ∧ x ≤ 2 ∧ x ≠ 0) ∧ w.length ≤ 24 := by
  unfold fitsB at h
  simp only [Bool.and_eq_true, List.all_eq_true] at h
  have b := isWordB_bd h.1
  refine ⟨h.1, fun x hx => ?_, b.2⟩
  have := h.2 x hx
  unfold twoLet at this
  have := of_decide_eq_true this
  have := b.1 x hx
  omega
theorem isWordB_min {p q : List Int} : isWordB (p ++ (-9223372036854775808) :: q) = false := by
  unfold isWordB
  simp [isLet]

theorem sFits_l0 : ∀ (q p : List Int), (∀ x ∈ p ++ q, -9223372036854775808 ≤ x ∧ x ≤ 9223372036854775807) → (p ++ q).length < 9000000000000000000 → Ev (fun k => spec_l20Fits.l0 k (p ++ q) p.length) (isWordB (p ++ q) && q.all twoLet) := by
  intro q
  induction q with
  | nil =>
    intro p hb hl
    refine Ev.step (fun k => by rw [spec_l20Fits.l0]) ?_
    refine ev_neg (by simp) (ev_bind (sIsWord _ hl) (ev_ret (by simp)))
  | cons x q ih =>
    intro p hb hl
    have hx := hb x (by simp)
    refine Ev.step (fun k => by rw [spec_l20Fits.l0]) ?_
    refine ev_pos (by simp; omega) (ev_pos (by omega) ?_)
    rw [rd_app, w64 (by omega) (by simp at hl; omega)]
    have h := ih (p ++ [x]) (by simpa using hb) (by simpa using hl)
    rw [List.append_assoc, List.singleton_append, len_snoc] at h
    by_cases hm : x = -9223372036854775808
    · subst hm
      refine ev_val sAbs_min (ev_neg (by omega) (ev_eq h ?_))
      rw [isWordB_min]; rfl
    · refine ev_val (sAbs (by omega) (by omega)) ?_
      by_cases h2 : (x.natAbs : Int) > 2
      · refine ev_pos h2 (ev_ret ?_)
        have : twoLet x = false := by unfold twoLet; simp; omega
        simp [this]
      · refine ev_neg h2 (ev_eq h ?_)
        have : twoLet x = true := by unfold twoLet; simp; omega
        simp [this]
theorem sFitsW (w : List Int) (hb : ∀ x ∈ w, -9223372036854775808 ≤ x ∧ x ≤ 9223372036854775807) (hl : w.length < 9000000000000000000) : Ev (fun k => spec_l20Fits.f k w) (fitsB w) := by
  have h := sFits_l0 w [] (by simpa using hb) (by simpa using hl)
  simp only [List.nil_append] at h
  exact h

def wslopeA (w : List Int) : Int × Int × Bool := if fitsB w = true then slopeOfA (rd (lsum w) 1) (rd (lsum w) 0) else (0, 0, false)
theorem sWordSlope (w : List Int) (hb : ∀ x ∈ w, -9223372036854775808 ≤ x ∧ x ≤ 9223372036854775807) (hl : w.length < 9000000000000000000) : Ev (fun k => spec_WordSlope.f k w) (wslopeA w) := by
  unfold spec_WordSlope.f wslopeA
  refine ev_bind (sFitsW w hb hl) ?_
  by_cases h : fitsB w = true
  · rw [if_pos h]
    have l8 := lsum_len w
    exact ev_pos h (ev_bind (sLsum w (fitsB_bd h).1) (ev_pos (by omega) (ev_pos (by omega) (ev_bind (sSlopeOf _ _) (ev_ret rfl)))))
  · rw [if_neg h]
    exact ev_neg h (ev_ret rfl)

def sletA (p n : Int) (a : Int) (k : Nat) : Int := if Int.tmod ((k : Int) * a) n < n - a then 1 else if p < 0 then -2 else 2
def swordA (p q : Int) : List Int × Bool :=
  if slopeB p q = true ∧ (p.natAbs : Int) + q ≤ 24 then ((List.range ((p.natAbs : Int) + q).toNat).map (sletA p ((p.natAbs : Int) + q) (p.natAbs : Int)), true) else ([], false)
theorem sprod_bd {k : Nat} {a n : Int} (hk : (k : Int) < n) (ha : 0 ≤ a) (hn : n ≤ 24) (han : a ≤ n) : 0 ≤ (k : Int) * a ∧ (k : Int) * a ≤ 1000 := by
  have h1 : (k : Int) * a ≤ 24 * 24 := Int.mul_le_mul (by omega) (by omega) ha (by omega)
  have h2 := Int.mul_nonneg (show (0 : Int) ≤ (k : Int) by omega) ha
  omega
theorem swordA_bd (p q : Int) : (∀ x ∈ (swordA p q).1, -2 ≤ x ∧ x ≤ 2 ∧ x ≠ 0) ∧ (swordA p q).1.length ≤ 24 := by
  unfold swordA
  split
  · next h =>
    refine ⟨?_, by simp; omega⟩
    intro x hx
    simp only [List.mem_map, List.mem_range] at hx
    obtain ⟨k, _, rfl⟩ := hx
    unfold sletA
    split
    · omega
    · split <;> omega
  · simp

theorem sIsSlope (p q : Int) (hp0 : -9223372036854775808 ≤ p) (hp1 : p ≤ 9223372036854775807) : Ev (fun k => spec_IsSlope.f k p q) (slopeB p q) := by
  unfold spec_IsSlope.f slopeB
  refine ev_val (in_eq _ _ _) ?_
  by_cases h1 : -1000 ≤ p ∧ p ≤ 1000
  · refine ev_pos (by simpa using h1) (ev_val (in_eq _ _ _) ?_)
    by_cases h2 : 0 ≤ q ∧ q ≤ 1000
    · refine ev_pos (by simpa using h2) ?_
      have hg := sGcd p q (by omega) (by omega) (by omega) (by omega)
      have fin : ∀ c : Prop, [Decidable c] → (c ↔ (q > 0 ∨ p = 1)) → c → Ev (fun k => (spec_l11Gcd.f k p q).bind fun t => some (t == 1)) (decide ((-1000 ≤ p ∧ p ≤ 1000) ∧ (0 ≤ q ∧ q ≤ 1000) ∧ Int.gcd p q = 1 ∧ (q > 0 ∨ p = 1))) := by
        intro c _ hc hcc
        refine ev_bind hg (ev_ret ?_)
        rw [Bool.eq_iff_iff, beq_iff_eq, decide_eq_true_eq]
        have := hc.mp hcc
        omega
      by_cases h3 : q = 0
      · refine ev_pos h3 ?_
        by_cases h4 : p = 1
        · exact ev_pos h4 (fin (p = 1) (by omega) h4)
        · refine ev_neg h4 (ev_ret ?_)
          symm; rw [decide_eq_false_iff_not]; omega
      · exact ev_neg h3 (fin (q > 0) (by omega) (by omega))
    · refine ev_neg (by simpa using h2) (ev_ret ?_)
      symm; rw [decide_eq_false_iff_not]; exact fun h => h2 h.2.1
  · refine ev_neg (by simpa using h1) (ev_ret ?_)
    symm; rw [decide_eq_false_iff_not]; exact fun h => h1 h.1

theorem sSword_l0 (p q : Int) (n a : Int) (ha : 0 ≤ a) (han : a ≤ n) (hn0 : 1 ≤ n) (hn : n ≤ 24) : ∀ (d i : Nat), (i : Int) + d = n → Ev (fun k => spec_SlopeWord.l0 k a n ((List.range i).map (sletA p n a)) (i : Int) p q) ((List.range n.toNat).map (sletA p n a), true) := by
  intro d
  induction d with
  | zero =>
    intro i hi
    refine Ev.step (fun k => by rw [spec_SlopeWord.l0]) (ev_neg (by omega) (ev_ret ?_))
    rw [show n.toNat = i by omega]
  | succ d ih =>
    intro i hi
    have hb := sprod_bd (k := i) (a := a) (n := n) (by omega) ha hn han
    refine Ev.step (fun k => by rw [spec_SlopeWord.l0]) (ev_pos (by omega) (ev_neg (by omega) ?_))
    rw [w64 (n := (i : Int) * a) (by omega) (by omega), w64 (n := n - a) (by omega) (by omega), w64 (n := (i : Int) + 1) (by omega) (by omega)]
    have h := ih (i + 1) (by omega)
    rw [List.range_succ, List.map_append, List.map_singleton] at h
    have hlen : ((List.range i).map (sletA p n a)).length < 17592186044416 := by simp; omega
    by_cases h1 : Int.tmod ((i : Int) * a) n < n - a
    · have e : sletA p n a i = 1 := by unfold sletA; rw [if_pos h1]
      rw [e] at h
      exact ev_pos h1 (ev_pos hlen h)
    · refine ev_neg h1 ?_
      by_cases h2 : p < 0
      · have e : sletA p n a i = -2 := by unfold sletA; rw [if_neg h1, if_pos h2]
        rw [e] at h
        exact ev_pos h2 (ev_pos hlen h)
      · have e : sletA p n a i = 2 := by unfold sletA; rw [if_neg h1, if_neg h2]
        rw [e] at h
        exact ev_neg h2 (ev_pos hlen h)
theorem sSword (p q : Int) (hp0 : -9223372036854775808 ≤ p) (hp1 : p ≤ 9223372036854775807) : Ev (fun k => spec_SlopeWord.f k p q) (swordA p q) := by
  unfold spec_SlopeWord.f swordA
  refine ev_bind (sIsSlope p q hp0 hp1) ?_
  by_cases h : slopeB p q = true
  · have b := slopeB_bd h
    refine ev_pos h (ev_val (sAbs (by omega) (by omega)) ?_)
    rw [w64 (by omega) (by omega)]
    refine Ev.step (fun k => by rw [spec_SlopeWord.j0]) ?_
    by_cases h2 : (p.natAbs : Int) + q ≤ 24
    · rw [if_pos ⟨h, h2⟩]
      refine ev_neg (by simp; omega) (ev_val (sAbs (by omega) (by omega)) ?_)
      rw [w64 (by omega) (by omega)]
      exact sSword_l0 p q _ _ (by omega) (by omega) (by omega) h2 ((p.natAbs : Int) + q).toNat 0 (by omega)
    · rw [if_neg (fun hh => h2 hh.2)]
      exact ev_pos (by simp; omega) (ev_ret rfl)
  · rw [if_neg (fun hh => h hh.1)]
    refine ev_neg h (Ev.step (fun k => by rw [spec_SlopeWord.j0]) (ev_pos rfl (ev_ret rfl)))

def redStep (out : List Int) (x : Int) : List Int := match out.getLast? with
  | some y => if y = -x then out.dropLast else out ++ [x]
  | none => [x]
def red (w : List Int) : List Int := w.foldl redStep []
theorem redStep_nil (x : Int) : redStep [] x = [x] := rfl
theorem redStep_snoc (o : List Int) (y x : Int) : redStep (o ++ [y]) x = if y = -x then o else o ++ [y] ++ [x] := by
  unfold redStep; simp
theorem redStep_mem {out : List Int} {x z : Int} (h : z ∈ redStep out x) : z ∈ out ∨ z = x := by
  rcases List.eq_nil_or_concat out with rfl | ⟨o, y, rfl⟩
  · rw [redStep_nil] at h; simpa using h
  · rw [List.concat_eq_append, redStep_snoc] at h
    rw [List.concat_eq_append]
    split at h
    · left; simp [h]
    · simpa [or_assoc] using h
theorem redStep_len (out : List Int) (x : Int) : (redStep out x).length ≤ out.length + 1 := by
  rcases List.eq_nil_or_concat out with rfl | ⟨o, y, rfl⟩
  · simp [redStep_nil]
  · rw [List.concat_eq_append, redStep_snoc]; split <;> simp; omega
theorem redFold_mem : ∀ (w out : List Int) (z : Int), z ∈ w.foldl redStep out → z ∈ out ∨ z ∈ w := by
  intro w
  induction w with
  | nil => intro out z h; exact .inl h
  | cons x w ih =>
    intro out z h
    rcases ih _ _ h with h | h
    · rcases redStep_mem h with h | h
      · exact .inl h
      · exact .inr (by simp [h])
    · exact .inr (by simp [h])
theorem redFold_len : ∀ (w out : List Int), (w.foldl redStep out).length ≤ out.length + w.length := by
  intro w
  induction w with
  | nil => intro out; simp
  | cons x w ih =>
    intro out
    have h := ih (redStep out x)
    have := redStep_len out x
    simp only [List.foldl_cons, List.length_cons]
    omega
theorem red_mem {w : List Int} {z : Int} (h : z ∈ red w) : z ∈ w := by
  rcases redFold_mem w [] z h with h | h
  · cases h
  · exact h
theorem red_len (w : List Int) : (red w).length ≤ w.length := by
  have h := redFold_len w []
  rw [List.length_nil, Nat.zero_add] at h
  exact h

def coreF : Nat → List Int → List Int
  | 0, l => l
  | n + 1, l => if 2 ≤ l.length ∧ rd l 0 = -(rd l ((l.length : Int) - 1)) then coreF n ((l.take (l.length - 1)).drop 1) else l
def core (w : List Int) : List Int := coreF (red w).length (red w)
theorem coreF_mem : ∀ (n : Nat) (l : List Int) (z : Int), z ∈ coreF n l → z ∈ l := by
  intro n
  induction n with
  | zero => intro l z h; exact h
  | succ n ih =>
    intro l z h
    unfold coreF at h
    split at h
    · exact List.mem_of_mem_take (List.mem_of_mem_drop (ih _ _ h))
    · exact h
theorem coreF_len : ∀ (n : Nat) (l : List Int), (coreF n l).length ≤ l.length := by
  intro n
  induction n with
  | zero => intro l; exact Nat.le_refl _
  | succ n ih =>
    intro l
    unfold coreF
    split
    · have := ih ((l.take (l.length - 1)).drop 1)
      simp at this ⊢
      omega
    · exact Nat.le_refl _
theorem core_mem {w : List Int} {z : Int} (h : z ∈ core w) : z ∈ w := red_mem (coreF_mem _ _ _ h)
theorem core_len (w : List Int) : (core w).length ≤ w.length := Nat.le_trans (coreF_len _ _) (red_len w)
theorem rd_mem {l : List Int} {i : Int} (h0 : 0 ≤ i) (h : i < (l.length : Int)) : rd l i ∈ l := by
  unfold rd
  have h' : i.toNat < l.length := by omega
  rw [List.getD_eq_getElem?_getD, List.getElem?_eq_getElem h']
  simp

def rot (l : List Int) (k : Nat) : List Int := l.drop k ++ l.take k
theorem rot_length (l : List Int) (k : Nat) : (rot l k).length = l.length := by unfold rot; simp; omega
theorem rot_zero (l : List Int) : rot l 0 = l := by simp [rot]
theorem rot_back (l : List Int) (k : Nat) (hk : k ≤ l.length) : rot (rot l k) (l.length - k) = l := by
  unfold rot
  have h1 : (l.drop k).length = l.length - k := by simp
  rw [List.drop_left' h1, List.take_left' h1, List.take_append_drop]

def rotEq (a b : List Int) : Bool := (List.range (a.length + 1)).any (fun k => rot a k == b)
theorem rotEq_iff (a b : List Int) : rotEq a b = true ↔ ∃ k, k ≤ a.length ∧ rot a k = b := by
  unfold rotEq
  simp only [List.any_eq_true, List.mem_range, beq_iff_eq]
  constructor
  · rintro ⟨k, hk, h⟩; exact ⟨k, by omega, h⟩
  · rintro ⟨k, hk, h⟩; exact ⟨k, by omega, h⟩
theorem rot_full (a : List Int) : rot a a.length = a := by simp [rot]
theorem rotEq_symm (a b : List Int) : rotEq a b = rotEq b a := by
  have h : ∀ a b : List Int, rotEq a b = true → rotEq b a = true := by
    intro a b hab
    rw [rotEq_iff] at hab ⊢
    obtain ⟨k, hk, rfl⟩ := hab
    exact ⟨a.length - k, by rw [rot_length]; omega, rot_back a k hk⟩
  rw [Bool.eq_iff_iff]
  exact ⟨h a b, h b a⟩
theorem rotEq_len {a b : List Int} (h : rotEq a b = true) : a.length = b.length := by
  rw [rotEq_iff] at h
  obtain ⟨k, _, rfl⟩ := h
  rw [rot_length]
def conjB (v w : List Int) : Bool := isWordB v && isWordB w && rotEq (core v) (core w)
theorem conjB_symm (v w : List Int) : conjB v w = conjB w v := by
  unfold conjB
  rw [rotEq_symm (core v)]
  cases isWordB v <;> cases isWordB w <;> simp
theorem any_range'_succ (P : Nat → Bool) (i d : Nat) : (List.range' i (d + 1)).any P = (P i || (List.range' (i + 1) d).any P) := by
  rw [List.range'_succ]; simp

theorem sReduce_l0 : ∀ (q p out : List Int), (∀ x ∈ p ++ q, -1000 ≤ x ∧ x ≤ 1000) → (p ++ q).length ≤ 1000000000 → out.length ≤ p.length → Ev (fun k => spec_l2Reduce.l0 k (p ++ q) out p.length) (q.foldl redStep out) := by
  intro q
  induction q with
  | nil =>
    intro p out hb hl ho
    refine Ev.step (fun k => by rw [spec_l2Reduce.l0]) ?_
    exact ev_neg (by simp) (ev_ret rfl)
  | cons x q ih =>
    intro p out hb hl ho
    have hx := hb x (by simp)
    have hlen : p.length + (q.length + 1) ≤ 1000000000 := by simpa using hl
    have step : ∀ out', redStep out x = out' → Ev (fun k => spec_l2Reduce.l0 k (p ++ x :: q) out' (p.length + 1)) ((x :: q).foldl redStep out) := by
      intro out' he
      have h := ih (p ++ [x]) out' (by simpa using hb) (by simpa using hl) (by rw [← he]; have := redStep_len out x; simp; omega)
      simp only [List.append_assoc, List.singleton_append, List.length_append, List.length_singleton, Int.natCast_add, Int.natCast_one] at h
      rw [List.foldl_cons, he]
      exact h
    refine Ev.step (fun k => by rw [spec_l2Reduce.l0]) ?_
    rw [rd_app, w64 (n := (p.length : Int) + 1) (by omega) (by omega)]
    rcases List.eq_nil_or_concat out with rfl | ⟨o, y, rfl⟩
    · refine ev_pos (by simp; omega) (ev_neg (by simp) (ev_pos (by omega) (ev_pos (by simp) ?_)))
      exact step [x] (redStep_nil x)
    · rw [List.concat_eq_append] at ho step ⊢
      have hol : o.length + 1 ≤ p.length := by simpa using ho
      have e1 : ((o ++ [y]).length : Int) = (o.length : Int) + 1 := by simp
      have e2 : (o ++ [y]).take ((o.length : Int)).toNat = o := by simp
      have e3 : rd (o ++ [y]) (o.length : Int) = y := rd_app o y []
      rw [w64 (n := ((o ++ [y]).length : Int) - 1) (by rw [e1]; omega) (by rw [e1]; omega), show ((o ++ [y]).length : Int) - 1 = (o.length : Int) by rw [e1]; omega, e3, e2, w64 (n := -x) (by omega) (by omega), e1]
      refine ev_pos (by simp; omega) (ev_pos (by omega) (ev_pos (by omega) (ev_pos (by omega) (ev_pos (by omega) (ev_ite (fun hy => ?_) (fun hy => ?_))))))
      · exact ev_pos (by omega) (step o (by rw [redStep_snoc, if_pos hy]))
      · exact ev_pos (by simp; omega) (step _ (by rw [redStep_snoc, if_neg hy]))
theorem sReduce (w : List Int) (hb : ∀ x ∈ w, -1000 ≤ x ∧ x ≤ 1000) (hl : w.length ≤ 1000000000) : Ev (fun k => spec_l2Reduce.f k w) (red w) := by
  have h := sReduce_l0 w [] [] (by simpa using hb) (by simpa using hl) (by simp)
  simp only [List.nil_append] at h
  exact h

theorem sCore_l0 : ∀ (n : Nat) (l : List Int), (∀ x ∈ l, -1000 ≤ x ∧ x ≤ 1000) → l.length ≤ 1000000000 → l.length ≤ n → Ev (fun k => spec_l2Core.l0 k l) (coreF n l) := by
  intro n
  induction n with
  | zero =>
    intro l hb hl hn
    obtain rfl : l = [] := by cases l; rfl; simp at hn
    refine Ev.step (fun k => by rw [spec_l2Core.l0]) ?_
    exact ev_neg (by simp) (ev_val rfl (ev_pos (by simp) (ev_ret rfl)))
  | succ n ih =>
    intro l hb hl hn
    refine Ev.step (fun k => by rw [spec_l2Core.l0]) ?_
    unfold coreF
    by_cases h2 : 2 ≤ l.length
    · have hlast := hb _ (rd_mem (l := l) (i := (l.length : Int) - 1) (by omega) (by omega))
      rw [w64 (n := (l.length : Int) - 1) (by omega) (by omega), w64 (n := -(rd l ((l.length : Int) - 1))) (by omega) (by omega)]
      refine ev_pos (by omega) (ev_pos (by omega) (ev_pos (by omega) (ev_pos (by omega) ?_)))
      by_cases he : rd l 0 = -(rd l ((l.length : Int) - 1))
      · rw [if_pos ⟨h2, he⟩]
        refine ev_pos he (ev_pos (by omega) (ev_pos (by omega) ?_))
        rw [show ((l.length : Int) - 1).toNat = l.length - 1 by omega, show (1 : Int).toNat = 1 by rfl]
        exact ih _ (fun x hx => hb x (List.mem_of_mem_take (List.mem_of_mem_drop hx))) (by simp; omega) (by simp; omega)
      · rw [if_neg (fun h => he h.2)]
        exact ev_neg he (ev_val rfl (ev_pos (by simp; omega) (ev_ret (by simp))))
    · rw [if_neg (fun h => h2 h.1)]
      exact ev_neg (by omega) (ev_val rfl (ev_pos (by simp; omega) (ev_ret (by simp))))
theorem sCore (w : List Int) (hb : ∀ x ∈ w, -1000 ≤ x ∧ x ≤ 1000) (hl : w.length ≤ 1000000000) : Ev (fun k => spec_l2Core.f k w) (core w) := by
  unfold spec_l2Core.f
  have := red_len w
  exact ev_bind (sReduce w hb hl) (sCore_l0 _ _ (fun x hx => hb x (red_mem hx)) (by omega) (Nat.le_refl _))

theorem sTurn (l : List Int) (i : Nat) (hi : i < l.length) (hl : l.length ≤ 1000000000) : spec_l2Turn.f l (i : Int) = some (rot l i) := by
  unfold spec_l2Turn.f
  rw [if_neg (by omega)]
  have e : Int.tmod (i : Int) (l.length : Int) = (i : Int) := by
    rw [Int.tmod_eq_emod_of_nonneg (by omega)]
    exact Int.emod_eq_of_lt (by omega) (by omega)
  rw [e, if_neg (by omega)]
  simp only [Option.bind_some, Int.toNat_natCast]
  rw [if_pos (by omega), if_pos (by omega), if_pos (by simp; omega), if_pos (by simp; omega)]
  simp [rot]
theorem sTurn_full (l : List Int) (h0 : l ≠ []) (hl : l.length ≤ 1000000000) : spec_l2Turn.f l (l.length : Int) = some l := by
  unfold spec_l2Turn.f
  have hp : 0 < l.length := by cases l; exact absurd rfl h0; simp
  rw [if_neg (by omega)]
  have e : Int.tmod (l.length : Int) (l.length : Int) = 0 := by simp
  rw [e, if_neg (by omega)]
  simp only [Option.bind_some]
  rw [if_pos (by omega), if_pos (by omega), if_pos (by simp; omega), if_pos (by simp; omega)]
  simp

theorem sSame_l0 : ∀ (a p q b : List Int), p.length = q.length → a.length = b.length → (p ++ a).length < 9000000000000000000 → Ev (fun k => spec_l2Same.l0 k (p ++ a) (q ++ b) p.length) (decide (a = b)) := by
  intro a
  induction a with
  | nil =>
    intro p q b hpq hab _
    obtain rfl : b = [] := by cases b; rfl; simp at hab
    refine Ev.step (fun k => by rw [spec_l2Same.l0]) ?_
    exact ev_neg (by simp) (ev_ret (by simp))
  | cons x a ih =>
    intro p q b hpq hab hl
    obtain ⟨y, b, rfl⟩ : ∃ y c, b = y :: c := by cases b with | nil => simp at hab | cons y c => exact ⟨y, c, rfl⟩
    refine Ev.step (fun k => by rw [spec_l2Same.l0]) ?_
    refine ev_pos (by simp; omega) (ev_pos (by omega) (ev_pos (by simp; omega) ?_))
    have e2 : rd (q ++ y :: b) (p.length : Int) = y := by rw [hpq]; exact rd_app q y b
    rw [rd_app, e2]
    by_cases hxy : x = y
    · subst hxy
      refine ev_pos rfl ?_
      have h := ih (p ++ [x]) (q ++ [x]) b (by simp [hpq]) (by simpa using hab) (by simpa using hl)
      rw [w64 (by omega) (by simp at hl; omega)]
      rw [List.append_assoc, List.append_assoc, List.singleton_append, List.singleton_append, len_snoc] at h
      have e : decide (x :: a = x :: b) = decide (a = b) := by simp
      rw [e]
      exact h
    · exact ev_neg hxy (ev_ret (by simp [hxy]))
theorem sSame (a b : List Int) (hl : a.length < 9000000000000000000) : Ev (fun k => spec_l2Same.f k a b) (decide (a = b)) := by
  unfold spec_l2Same.f
  by_cases h : a.length = b.length
  · have h1 := sSame_l0 a [] [] b rfl h (by simpa using hl)
    simp only [List.nil_append] at h1
    exact ev_pos (by omega) h1
  · exact ev_neg (by omega) (ev_ret (by have hn : ¬ a = b := fun e => h (by rw [e]); simp [hn]))

theorem sConj_l0 (a b : List Int) (hl : a.length ≤ 1000000000) : ∀ (d i : Nat), i + d = a.length → Ev (fun k => spec_AreConjugate.l0 k a b (i : Int)) ((List.range' i d).any (fun k => rot a k == b) || (decide (a.length = 0) && decide (b.length = 0))) := by
  intro d
  induction d with
  | zero =>
    intro i hi
    refine Ev.step (fun k => by rw [spec_AreConjugate.l0]) ?_
    refine ev_neg (by omega) ?_
    by_cases h : a.length = 0
    · refine ev_pos (by omega) (ev_ret ?_)
      rw [Bool.eq_iff_iff]
      simp [h]
    · exact ev_neg (by omega) (ev_ret (by simp [h]))
  | succ d ih =>
    intro i hi
    refine Ev.step (fun k => by rw [spec_AreConjugate.l0]) ?_
    refine ev_pos (by omega) (ev_val (sTurn a i (by omega) hl) ?_)
    refine ev_bind (sSame (rot a i) b (by rw [rot_length]; omega)) ?_
    rw [any_range'_succ]
    by_cases h : rot a i = b
    · exact ev_pos (by simp [h]) (ev_ret (by simp [h]))
    · refine ev_neg (by simp [h]) ?_
      rw [w64 (by omega) (by omega)]
      refine ev_eq (ih (i + 1) (by omega)) ?_
      have : (rot a i == b) = false := by simp [h]
      rw [this, Bool.false_or]
theorem sConj_any (a b : List Int) : ((List.range' 0 a.length).any (fun k => rot a k == b) || (decide (a.length = 0) && decide (b.length = 0))) = rotEq a b := by
  rw [Bool.eq_iff_iff, rotEq_iff]
  simp only [Bool.or_eq_true, List.any_eq_true, List.mem_range'_1, beq_iff_eq, Bool.and_eq_true, decide_eq_true_eq]
  constructor
  · rintro (⟨k, hk, h⟩ | ⟨h1, h2⟩)
    · exact ⟨k, by omega, h⟩
    · refine ⟨0, by omega, ?_⟩
      rw [rot_zero, List.eq_nil_of_length_eq_zero h1, List.eq_nil_of_length_eq_zero h2]
  · rintro ⟨k, hk, h⟩
    by_cases h0 : a.length = 0
    · right
      refine ⟨h0, ?_⟩
      rw [← h, rot_length, h0]
    · left
      by_cases hk2 : k = a.length
      · refine ⟨0, by omega, ?_⟩
        rw [rot_zero]
        rw [hk2, rot_full] at h
        exact h
      · exact ⟨k, by omega, h⟩
theorem sConj (v w : List Int) (hv : v.length ≤ 1000000000) (hw : w.length ≤ 1000000000) : Ev (fun k => spec_AreConjugate.f k v w) (conjB v w) := by
  unfold spec_AreConjugate.f conjB
  refine ev_bind (sIsWord v (by omega)) ?_
  by_cases h1 : isWordB v = true
  · refine ev_pos h1 (ev_bind (sIsWord w (by omega)) ?_)
    refine Ev.step (fun k => by rw [spec_AreConjugate.j0]) ?_
    by_cases h2 : isWordB w = true
    · have b1 := isWordB_bd h1
      have b2 := isWordB_bd h2
      refine ev_neg (by simp [h2]) ?_
      refine ev_bind (sCore v (fun x hx => by have := b1.1 x hx; omega) hv) (ev_bind (sCore w (fun x hx => by have := b2.1 x hx; omega) hw) ?_)
      have hc := core_len v
      have h := sConj_l0 (core v) (core w) (by omega) (core v).length 0 (by omega)
      rw [sConj_any] at h
      refine ev_eq h ?_
      simp [h1, h2]
    · exact ev_pos (by simp [h2]) (ev_ret (by simp [h2]))
  · refine ev_neg h1 ?_
    refine Ev.step (fun k => by rw [spec_AreConjugate.j0]) ?_
    exact ev_pos rfl (ev_ret (by simp [h1]))

def invW (w : List Int) : List Int := (w.map (fun x => -x)).reverse
theorem invW_length (w : List Int) : (invW w).length = w.length := by simp [invW]

theorem sInv_l0 : ∀ (n : Nat) (p q out : List Int), p.length = n → (∀ x ∈ p ++ q, -1000000 ≤ x ∧ x ≤ 1000000) → n ≤ 1000000000 → out.length + n ≤ 1000000000 → Ev (fun k => spec_l2Inverse.l0 k (p ++ q) out ((n : Int) - 1)) (out ++ invW p) := by
  intro n
  induction n with
  | zero =>
    intro p q out hp hb hl ho
    obtain rfl : p = [] := List.eq_nil_of_length_eq_zero hp
    refine Ev.step (fun k => by rw [spec_l2Inverse.l0]) ?_
    exact ev_neg (by simp) (ev_ret (by simp [invW]))
  | succ n ih =>
    intro p q out hp hb hl ho
    rcases List.eq_nil_or_concat p with rfl | ⟨p, x, rfl⟩
    · simp at hp
    · rw [List.concat_eq_append] at hp hb ⊢
      have hn : p.length = n := by simpa using hp
      have hx := hb x (by simp)
      have e1 : (((n + 1 : Nat) : Int)) - 1 = (p.length : Int) := by omega
      rw [e1]
      refine Ev.step (fun k => by rw [spec_l2Inverse.l0]) ?_
      rw [List.append_assoc, List.singleton_append, rd_app, w64 (n := -x) (by omega) (by omega), w64 (by omega) (by omega)]
      refine ev_pos (by omega) (ev_pos (by omega) (ev_pos (by simp; omega) (ev_pos (by omega) ?_)))
      have h := ih p (x :: q) (out ++ [-x]) hn (by simpa using hb) (by omega) (by simp; omega)
      rw [hn]
      refine ev_eq h ?_
      simp [invW]
theorem sInv (w : List Int) (hb : ∀ x ∈ w, -1000000 ≤ x ∧ x ≤ 1000000) (hl : w.length ≤ 1000000000) : Ev (fun k => spec_l2Inverse.f k w) (invW w) := by
  have h := sInv_l0 w.length w [] [] rfl (by simpa using hb) hl (by simp; omega)
  simp only [List.append_nil, List.nil_append] at h
  unfold spec_l2Inverse.f
  rw [w64 (by omega) (by omega)]
  exact h

def likeB (v w : List Int) : Bool := conjB v w || conjB v (invW w)

theorem slopeOfA_bd (p q : Int) : -1000 ≤ (slopeOfA p q).1 ∧ (slopeOfA p q).1 ≤ 1000 ∧ -1000 ≤ (slopeOfA p q).2.1 ∧ (slopeOfA p q).2.1 ≤ 1000 := by
  have hp := tdiv_abs p (Int.gcd p q)
  have hq := tdiv_abs q (Int.gcd p q)
  unfold slopeOfA
  split
  · split <;> simp <;> omega
  · simp

def simpleA (w : List Int) : Bool := (wslopeA w).2.2 && (swordA (wslopeA w).1 (wslopeA w).2.1).2 && likeB (swordA (wslopeA w).1 (wslopeA w).2.1).1 w
theorem wslopeA_bd (w : List Int) : -1000 ≤ (wslopeA w).1 ∧ (wslopeA w).1 ≤ 1000 ∧ -1000 ≤ (wslopeA w).2.1 ∧ (wslopeA w).2.1 ≤ 1000 := by
  unfold wslopeA
  split
  · exact slopeOfA_bd _ _
  · simp
theorem wslopeA_fits {w : List Int} (h : (wslopeA w).2.2 = true) : fitsB w = true := by
  unfold wslopeA at h
  split at h
  · assumption
  · cases h
theorem sSimple (w : List Int) (hb : ∀ x ∈ w, -9223372036854775808 ≤ x ∧ x ≤ 9223372036854775807) (hl : w.length ≤ 1000000000) : Ev (fun k => spec_IsSimpleWord.f k w) (simpleA w) := by
  unfold spec_IsSimpleWord.f simpleA
  have hs := wslopeA_bd w
  refine ev_bind (sWordSlope w hb (by omega)) ?_
  by_cases h : (wslopeA w).2.2 = true
  · have b := fitsB_bd (wslopeA_fits h)
    have sb := swordA_bd (wslopeA w).1 (wslopeA w).2.1
    refine ev_pos h (ev_bind (sSword _ _ (by omega) (by omega)) ?_)
    by_cases h2 : (swordA (wslopeA w).1 (wslopeA w).2.1).2 = true
    · refine ev_pos h2 (ev_bind (sConj _ w (by omega) hl) ?_)
      rw [h, h2, Bool.true_and, Bool.true_and]
      unfold likeB
      by_cases h3 : conjB (swordA (wslopeA w).1 (wslopeA w).2.1).1 w = true
      · exact ev_pos h3 (ev_ret (by simp [h3]))
      · exact ev_neg h3 (ev_bind (sInv w (fun x hx => by have := b.2.1 x hx; omega) hl) (ev_bind (sConj _ _ (by omega) (by rw [invW_length]; exact hl)) (ev_ret (by simp [h3]))))
    · exact ev_neg h2 (ev_ret (by simp [h2]))
  · exact ev_neg h (ev_ret (by simp [h]))

theorem iSize {x : Int} (h0 : -9223372036854775807 ≤ x) (h1 : x ≤ 9223372036854775807) : impl_size.f x = some (x.natAbs : Int) := by
  unfold impl_size.f
  rw [w64 (by omega) (by omega)]
  congr 1
  unfold mx
  split <;> omega
theorem iSize_min : impl_size.f (-9223372036854775808) = some (-9223372036854775808) := by decide +kernel

theorem iGcd_l0 : ∀ (n : Nat) (a b : Int), b.natAbs < n → 0 ≤ a → 0 ≤ b → Ev (fun k => impl_gcd.l0 k a b) (Int.gcd a b : Int) := by
  intro n
  induction n with
  | zero => intro a b h; omega
  | succ n ih =>
    intro a b hn ha0 hb0
    refine Ev.step (fun k => by rw [impl_gcd.l0]) ?_
    by_cases hb : b = 0
    · subst hb
      refine ev_pos rfl (ev_ret ?_)
      simp; omega
    · have hs := gcd_small (a := a) hb
      have h := ih b (Int.tmod a b) (by omega) hb0 (Int.tmod_nonneg b ha0)
      rw [gcd_step] at h
      exact ev_neg hb h
theorem iGcd (a b : Int) (ha0 : -1000000000000 ≤ a) (ha1 : a ≤ 1000000000000) (hb0 : -1000000000000 ≤ b) (hb1 : b ≤ 1000000000000) : Ev (fun k => impl_gcd.f k a b) (Int.gcd a b : Int) := by
  unfold impl_gcd.f
  refine ev_val (iSize (by omega) (by omega)) (ev_val (iSize (by omega) (by omega)) ?_)
  refine ev_eq (iGcd_l0 (b.natAbs + 1) _ _ (by omega) (by omega) (by omega)) ?_
  unfold Int.gcd
  simp

theorem within_eq (a b c : Int) : impl_within.f a b c = some (decide (b ≤ a ∧ a ≤ c)) := by
  unfold impl_within.f; exact ge_dec a b c

theorem iLowest (p q : Int) (h1 : -1000 ≤ p ∧ p ≤ 1000) (h2 : -1000 ≤ q ∧ q ≤ 1000) (h3 : ¬ (p = 0 ∧ q = 0)) : Ev (fun k => impl_lowest.f k p q) ((slopeOfA p q).1, (slopeOfA p q).2.1) ∧ (slopeOfA p q).2.2 = true := by
  have hg := gcd_pos' h3
  have hp := tdiv_abs p (Int.gcd p q)
  have hq := tdiv_abs q (Int.gcd p q)
  have sp := tdiv_sign hg (Int.gcd_dvd_left p q)
  have sq := tdiv_sign hg (Int.gcd_dvd_right p q)
  unfold slopeOfA
  rw [if_pos ⟨h1, h2, h3⟩]
  refine ⟨?_, by split <;> rfl⟩
  unfold impl_lowest.f
  refine ev_bind (iGcd p q (by omega) (by omega) (by omega) (by omega)) ?_
  rw [w64 (n := p.tdiv (Int.gcd p q)) (by omega) (by omega), w64 (n := q.tdiv (Int.gcd p q)) (by omega) (by omega), w64 (n := -(p.tdiv (Int.gcd p q))) (by omega) (by omega), w64 (n := -(q.tdiv (Int.gcd p q))) (by omega) (by omega)]
  refine ev_neg (by omega) ?_
  by_cases h4 : q < 0
  · rw [if_pos (Or.inl h4)]
    exact ev_pos (sq.1.mpr h4) (ev_ret rfl)
  · refine ev_neg (fun h => h4 (sq.1.mp h)) ?_
    by_cases h5 : q = 0
    · refine ev_pos (sq.2.mpr h5) ?_
      by_cases h6 : p < 0
      · rw [if_pos (Or.inr ⟨h5, h6⟩)]
        exact ev_pos (sp.1.mpr h6) (ev_ret rfl)
      · have hn : ¬ (q < 0 ∨ (q = 0 ∧ p < 0)) := by omega
        rw [if_neg hn]
        exact ev_neg (fun h => h6 (sp.1.mp h)) (ev_ret rfl)
    · have hn : ¬ (q < 0 ∨ (q = 0 ∧ p < 0)) := by omega
      rw [if_neg hn]
      exact ev_neg (fun h => h5 (sq.2.mp h)) (ev_ret rfl)
theorem iSlopeOf (p q : Int) : Ev (fun k => impl_SlopeOf.f k p q) (slopeOfA p q) := by
  have main : ¬ (p = 0 ∧ q = 0) → Ev (fun k => (impl_within.f p (-1000) 1000).bind fun t => (if t = true then ((impl_within.f q (-1000) 1000).bind fun t2 => (if t2 = true then ((impl_lowest.f k p q).bind fun b => (some (b.1, b.2, true))) else (some (0, 0, false)))) else (some (0, 0, false)))) (slopeOfA p q) := by
    intro h3
    refine ev_val (within_eq _ _ _) ?_
    by_cases h1 : -1000 ≤ p ∧ p ≤ 1000
    · refine ev_pos (by simpa using h1) (ev_val (within_eq _ _ _) ?_)
      by_cases h2 : -1000 ≤ q ∧ q ≤ 1000
      · have h := iLowest p q h1 h2 h3
        refine ev_pos (by simpa using h2) (ev_bind h.1 (ev_ret ?_))
        rw [← h.2]
      · refine ev_neg (by simpa using h2) (ev_ret ?_)
        unfold slopeOfA; rw [if_neg (fun h => h2 h.2.1)]
    · refine ev_neg (by simpa using h1) (ev_ret ?_)
      unfold slopeOfA; rw [if_neg (fun h => h1 h.1)]
  unfold impl_SlopeOf.f
  by_cases h4 : p = 0
  · refine ev_pos h4 ?_
    by_cases h5 : q = 0
    · refine ev_pos h5 (ev_ret ?_)
      unfold slopeOfA; rw [if_neg (fun h => h.2.2 ⟨h4, h5⟩)]
    · exact ev_neg h5 (main (fun h => h5 h.2))
  · exact ev_neg h4 (main (fun h => h4 h.1))

theorem iLetter (x : Int) : impl_isLetter.f x = some (isLet x) := by
  unfold impl_isLetter.f isLet
  by_cases h : x = 0
  · rw [if_pos h]; subst h; simp
  · rw [if_neg h, within_eq]
    simp only [Option.bind_some]
    congr 1
    rw [decide_eq_decide]
    omega
theorem iIsWord_l0 (w : List Int) : ∀ (q p : List Int), (p ++ q).length < 9000000000000000000 → Ev (fun k => impl_IsWord.l0 k w (p ++ q) ((p ++ q).length : Int) p.length) (q.all isLet && decide (w.length ≤ 24)) := by
  intro q
  induction q with
  | nil =>
    intro p hl
    refine Ev.step (fun k => by rw [impl_IsWord.l0]) ?_
    refine ev_neg (by simp) (ev_ret ?_)
    simp; omega
  | cons x q ih =>
    intro p hl
    refine Ev.step (fun k => by rw [impl_IsWord.l0]) ?_
    refine ev_pos (by simp; omega) (ev_pos (by omega) (ev_pos (by simp; omega) ?_))
    rw [rd_app, w64 (by omega) (by simp at hl; omega)]
    refine ev_val (iLetter x) ?_
    have h := ih (p ++ [x]) (by simpa using hl)
    rw [List.append_assoc, List.singleton_append, len_snoc] at h
    cases hx : isLet x
    · exact ev_neg (by simp) (ev_ret (by simp [hx]))
    · refine ev_pos rfl (ev_eq h ?_)
      simp [hx]
theorem iIsWord (w : List Int) (hl : w.length < 9000000000000000000) : Ev (fun k => impl_IsWord.f k w) (isWordB w) := by
  have h := iIsWord_l0 w w [] (by simpa using hl)
  simp only [List.nil_append] at h
  exact h

theorem iLsum_l0 : ∀ (q p out : List Int), (∀ x ∈ p ++ q, -8 ≤ x ∧ x ≤ 8 ∧ x ≠ 0) → (p ++ q).length ≤ 1000000 → out.length = 8 → Ev (fun k => impl_LetterSums.l0 k out (p ++ q) ((p ++ q).length : Int) p.length) (q.foldl lStep out) := by
  intro q
  induction q with
  | nil =>
    intro p out hb hl ho
    refine Ev.step (fun k => by rw [impl_LetterSums.l0]) ?_
    exact ev_neg (by simp) (ev_ret rfl)
  | cons x q ih =>
    intro p out hb hl ho
    have hx := hb x (by simp)
    have h := ih (p ++ [x]) (lStep out x) (by simpa using hb) (by simpa using hl) (by rw [lStep_len, ho])
    rw [List.append_assoc, List.singleton_append, len_snoc] at h
    rw [List.foldl_cons]
    refine Ev.step (fun k => by rw [impl_LetterSums.l0]) ?_
    refine ev_pos (by simp; omega) (ev_pos (by omega) (ev_pos (by simp; omega) ?_))
    rw [rd_app, w64 (n := (p.length : Int) + 1) (by omega) (by simp at hl; omega)]
    by_cases hp : x > 0
    · rw [w64 (n := x - 1) (by omega) (by omega)]
      refine ev_pos hp (ev_pos (by omega) (ev_pos (by omega) ?_))
      have e : lStep out x = out.set (x - 1).toNat (wrap64 (rd out (x - 1) + 1)) := by unfold lStep; rw [if_pos hp]
      rw [e] at h ⊢
      exact h
    · rw [w64 (n := -x) (by omega) (by omega), w64 (n := -x - 1) (by omega) (by omega)]
      refine ev_neg hp (ev_pos (by omega) (ev_pos (by omega) ?_))
      have e : lStep out x = out.set (-x - 1).toNat (wrap64 (rd out (-x - 1) - 1)) := by unfold lStep; rw [if_neg hp]
      rw [e] at h ⊢
      exact h
theorem iLsum (w : List Int) (hw : isWordB w = true) : Ev (fun k => impl_LetterSums.f k w) (lsum w) := by
  have b := isWordB_bd hw
  unfold impl_LetterSums.f
  refine ev_bind (iIsWord w (by omega)) (ev_pos hw (ev_pos (by decide) ?_))
  have h := iLsum_l0 w [] (List.replicate 8 0) (by simpa using b.1) (by simp; omega) (by simp)
  simp only [List.nil_append] at h
  exact h

theorem iFits_l0 (w : List Int) (hw : w.length < 9000000000000000000) : ∀ (q p : List Int), w = p ++ q → (∀ x ∈ p ++ q, -9223372036854775808 ≤ x ∧ x ≤ 9223372036854775807) → Ev (fun k => impl_hasLetters.l0 k w 2 (p ++ q) ((p ++ q).length : Int) p.length) (isWordB w && q.all twoLet) := by
  intro q
  induction q with
  | nil =>
    intro p he hb
    refine Ev.step (fun k => by rw [impl_hasLetters.l0]) ?_
    refine ev_neg (by simp) (ev_bind (iIsWord _ hw) (ev_ret (by simp)))
  | cons x q ih =>
    intro p he hb
    have hx := hb x (by simp)
    have hl : (p ++ x :: q).length < 9000000000000000000 := by rw [← he]; exact hw
    refine Ev.step (fun k => by rw [impl_hasLetters.l0]) ?_
    refine ev_pos (by simp; omega) (ev_pos (by omega) (ev_pos (by simp; omega) ?_))
    rw [rd_app, w64 (by omega) (by simp at hl; omega)]
    have h := ih (p ++ [x]) (by simpa using he) (by simpa using hb)
    rw [List.append_assoc, List.singleton_append, len_snoc] at h
    by_cases hm : x = -9223372036854775808
    · subst hm
      refine ev_val iSize_min (ev_neg (by omega) (ev_eq h ?_))
      rw [he, isWordB_min]; rfl
    · refine ev_val (iSize (by omega) (by omega)) ?_
      by_cases h2 : (x.natAbs : Int) > 2
      · refine ev_pos h2 (ev_ret ?_)
        have : twoLet x = false := by unfold twoLet; simp; omega
        simp [this]
      · refine ev_neg h2 (ev_eq h ?_)
        have : twoLet x = true := by unfold twoLet; simp; omega
        simp [this]
theorem iFitsW (w : List Int) (hb : ∀ x ∈ w, -9223372036854775808 ≤ x ∧ x ≤ 9223372036854775807) (hl : w.length < 9000000000000000000) : Ev (fun k => impl_isCurve.f k w) (fitsB w) := by
  have h := iFits_l0 w hl w [] (by simp) (by simpa using hb)
  simp only [List.nil_append] at h
  unfold impl_isCurve.f impl_hasLetters.f
  exact ev_bind h (ev_ret rfl)

theorem iWordSlope (w : List Int) (hb : ∀ x ∈ w, -9223372036854775808 ≤ x ∧ x ≤ 9223372036854775807) (hl : w.length < 9000000000000000000) : Ev (fun k => impl_WordSlope.f k w) (wslopeA w) := by
  unfold impl_WordSlope.f wslopeA
  refine ev_bind (iFitsW w hb hl) ?_
  by_cases h : fitsB w = true
  · rw [if_pos h]
    have l8 := lsum_len w
    exact ev_pos h (ev_bind (iLsum w (fitsB_bd h).1) (ev_pos (by omega) (ev_pos (by omega) (ev_bind (iSlopeOf _ _) (ev_ret rfl)))))
  · rw [if_neg h]
    exact ev_neg h (ev_ret rfl)

theorem iIsSlope (p q : Int) : Ev (fun k => impl_IsSlope.f k p q) (slopeB p q) := by
  unfold impl_IsSlope.f slopeB
  refine ev_val (within_eq _ _ _) ?_
  by_cases h1 : -1000 ≤ p ∧ p ≤ 1000
  · refine ev_pos (by simpa using h1) (ev_val (within_eq _ _ _) ?_)
    by_cases h2 : 0 ≤ q ∧ q ≤ 1000
    · refine ev_pos (by simpa using h2) (ev_bind (iGcd p q (by omega) (by omega) (by omega) (by omega)) ?_)
      by_cases h3 : (Int.gcd p q : Int) = 1
      · refine ev_pos h3 ?_
        by_cases h4 : q > 0
        · refine ev_pos h4 (ev_ret ?_)
          symm; rw [decide_eq_true_eq]; omega
        · refine ev_neg h4 (ev_ret ?_)
          rw [Bool.eq_iff_iff, beq_iff_eq, decide_eq_true_eq]; omega
      · refine ev_neg h3 (ev_ret ?_)
        symm; rw [decide_eq_false_iff_not]; omega
    · refine ev_neg (by simpa using h2) (ev_ret ?_)
      symm; rw [decide_eq_false_iff_not]; exact fun h => h2 h.2.1
  · refine ev_neg (by simpa using h1) (ev_ret ?_)
    symm; rw [decide_eq_false_iff_not]; exact fun h => h1 h.1

theorem iSword_l0 (p : Int) (n a sec : Int) (hs : sec = if p < 0 then -2 else 2) (ha : 0 ≤ a) (han : a ≤ n) (hn0 : 1 ≤ n) (hn : n ≤ 24) : ∀ (d i : Nat), (i : Int) + d = n → Ev (fun k => impl_SlopeWord.l0 k a n sec ((List.range i).map (sletA p n a)) n (i : Int)) ((List.range n.toNat).map (sletA p n a), true) := by
  intro d
  induction d with
  | zero =>
    intro i hi
    refine Ev.step (fun k => by rw [impl_SlopeWord.l0]) (ev_neg (by omega) (ev_ret ?_))
    rw [show n.toNat = i by omega]
  | succ d ih =>
    intro i hi
    have hb := sprod_bd (k := i) (a := a) (n := n) (by omega) ha hn han
    refine Ev.step (fun k => by rw [impl_SlopeWord.l0]) (ev_pos (by omega) (ev_neg (by omega) ?_))
    rw [w64 (n := (i : Int) * a) (by omega) (by omega), w64 (n := n - a) (by omega) (by omega), w64 (n := (i : Int) + 1) (by omega) (by omega)]
    have h := ih (i + 1) (by omega)
    rw [List.range_succ, List.map_append, List.map_singleton] at h
    have hlen : ((List.range i).map (sletA p n a)).length < 17592186044416 := by simp; omega
    by_cases h1 : Int.tmod ((i : Int) * a) n < n - a
    · have e : sletA p n a i = 1 := by unfold sletA; rw [if_pos h1]
      rw [e] at h
      exact ev_neg (by omega) (ev_pos hlen h)
    · have e : sletA p n a i = sec := by unfold sletA; rw [if_neg h1, hs]
      rw [e] at h
      exact ev_pos (by omega) (ev_pos hlen h)
theorem iSword (p q : Int) (hp0 : -9223372036854775808 ≤ p) (hp1 : p ≤ 9223372036854775807) : Ev (fun k => impl_SlopeWord.f k p q) (swordA p q) := by
  unfold impl_SlopeWord.f swordA
  obtain ⟨a, ha⟩ : ∃ a, impl_size.f p = some a := ⟨_, rfl⟩
  refine ev_val ha (ev_bind (iIsSlope p q) ?_)
  by_cases h : slopeB p q = true
  · have b := slopeB_bd h
    obtain rfl : a = (p.natAbs : Int) := by
      rw [iSize (by omega) (by omega)] at ha
      exact (Option.some.inj ha).symm
    refine ev_pos h ?_
    rw [w64 (n := (p.natAbs : Int) + q) (by omega) (by omega)]
    refine Ev.step (fun k => by rw [impl_SlopeWord.j0]) ?_
    by_cases h2 : (p.natAbs : Int) + q ≤ 24
    · rw [if_pos ⟨h, h2⟩]
      refine ev_neg (by simp; omega) (ev_val rfl ?_)
      rw [w64 (by omega) (by omega)]
      by_cases hp : p < 0
      · refine ev_pos hp (Ev.step (fun k => by rw [impl_SlopeWord.j1]) ?_)
        exact iSword_l0 p _ _ (-2) (by rw [if_pos hp]) (by omega) (by omega) (by omega) h2 ((p.natAbs : Int) + q).toNat 0 (by omega)
      · refine ev_neg hp (Ev.step (fun k => by rw [impl_SlopeWord.j1]) ?_)
        exact iSword_l0 p _ _ 2 (by rw [if_neg hp]) (by omega) (by omega) (by omega) h2 ((p.natAbs : Int) + q).toNat 0 (by omega)
    · rw [if_neg (fun hh => h2 hh.2)]
      exact ev_pos (by simp; omega) (ev_ret rfl)
  · rw [if_neg (fun hh => h hh.1)]
    refine ev_neg h (Ev.step (fun k => by rw [impl_SlopeWord.j0]) (ev_pos rfl (ev_ret rfl)))

theorem iReduce_l0 : ∀ (q p out : List Int), (∀ x ∈ p ++ q, -1000 ≤ x ∧ x ≤ 1000) → (p ++ q).length ≤ 1000000000 → out.length ≤ p.length → Ev (fun k => impl_reduce.l0 k out (p ++ q) ((p ++ q).length : Int) p.length) (q.foldl redStep out) := by
  intro q
  induction q with
  | nil =>
    intro p out hb hl ho
    refine Ev.step (fun k => by rw [impl_reduce.l0]) ?_
    exact ev_neg (by simp) (ev_ret rfl)
  | cons x q ih =>
    intro p out hb hl ho
    have hx := hb x (by simp)
    have hlen : p.length + (q.length + 1) ≤ 1000000000 := by simpa using hl
    have step : ∀ out', redStep out x = out' → Ev (fun k => impl_reduce.l0 k out' (p ++ x :: q) ((p ++ x :: q).length : Int) (p.length + 1)) ((x :: q).foldl redStep out) := by
      intro out' he
      have h := ih (p ++ [x]) out' (by simpa using hb) (by simpa using hl) (by rw [← he]; have := redStep_len out x; simp; omega)
      rw [List.append_assoc, List.singleton_append, len_snoc] at h
      rw [List.foldl_cons, he]
      exact h
    refine Ev.step (fun k => by rw [impl_reduce.l0]) ?_
    rw [rd_app, w64 (n := (p.length : Int) + 1) (by omega) (by omega)]
    rcases List.eq_nil_or_concat out with rfl | ⟨o, y, rfl⟩
    · refine ev_pos (by simp; omega) (ev_pos (by omega) (ev_pos (by simp; omega) (ev_neg (by simp) (ev_pos (by simp) ?_))))
      exact step [x] (redStep_nil x)
    · rw [List.concat_eq_append] at ho step ⊢
      have hol : o.length + 1 ≤ p.length := by simpa using ho
      have e1 : ((o ++ [y]).length : Int) = (o.length : Int) + 1 := by simp
      have e2 : (o ++ [y]).take ((o.length : Int)).toNat = o := by simp
      have e3 : rd (o ++ [y]) (o.length : Int) = y := rd_app o y []
      rw [w64 (n := ((o ++ [y]).length : Int) - 1) (by rw [e1]; omega) (by rw [e1]; omega), show ((o ++ [y]).length : Int) - 1 = (o.length : Int) by rw [e1]; omega, e3, e2, w64 (n := -x) (by omega) (by omega), e1]
      refine ev_pos (by simp; omega) (ev_pos (by omega) (ev_pos (by simp; omega) (ev_pos (by omega) (ev_pos (by omega) (ev_pos (by omega) (ev_ite (fun hy => ?_) (fun hy => ?_)))))))
      · exact ev_pos (by omega) (step o (by rw [redStep_snoc, if_pos hy]))
      · exact ev_pos (by simp; omega) (step _ (by rw [redStep_snoc, if_neg hy]))
theorem iReduce (w : List Int) (hb : ∀ x ∈ w, -1000 ≤ x ∧ x ≤ 1000) (hl : w.length ≤ 1000000000) : Ev (fun k => impl_reduce.f k w) (red w) := by
  have h := iReduce_l0 w [] [] (by simpa using hb) (by simpa using hl) (by simp)
  simp only [List.nil_append] at h
  exact h

theorem iCopy (l : List Int) (hl : l.length ≤ 10000000000000) : impl_copyOf.f l = some l := by
  unfold impl_copyOf.f
  simp only [Option.bind_some]
  rw [if_pos (by simp; omega)]
  simp

theorem iCore_l0 : ∀ (n : Nat) (l : List Int), (∀ x ∈ l, -1000 ≤ x ∧ x ≤ 1000) → l.length ≤ 1000000000 → l.length ≤ n → Ev (fun k => impl_CoreWord.l0 k l) (coreF n l) := by
  intro n
  induction n with
  | zero =>
    intro l hb hl hn
    obtain rfl : l = [] := by cases l; rfl; simp at hn
    refine Ev.step (fun k => by rw [impl_CoreWord.l0]) ?_
    exact ev_neg (by simp) (ev_val (iCopy _ (by simp)) (ev_ret rfl))
  | succ n ih =>
    intro l hb hl hn
    refine Ev.step (fun k => by rw [impl_CoreWord.l0]) ?_
    unfold coreF
    by_cases h2 : 2 ≤ l.length
    · have hlast := hb _ (rd_mem (l := l) (i := (l.length : Int) - 1) (by omega) (by omega))
      rw [w64 (n := (l.length : Int) - 1) (by omega) (by omega), w64 (n := -(rd l ((l.length : Int) - 1))) (by omega) (by omega)]
      refine ev_pos (by omega) (ev_pos (by omega) (ev_pos (by omega) (ev_pos (by omega) ?_)))
      by_cases he : rd l 0 = -(rd l ((l.length : Int) - 1))
      · rw [if_pos ⟨h2, he⟩]
        refine ev_pos he (ev_pos (by omega) (ev_pos (by omega) ?_))
        rw [show ((l.length : Int) - 1).toNat = l.length - 1 by omega, show (1 : Int).toNat = 1 by rfl]
        exact ih _ (fun x hx => hb x (List.mem_of_mem_take (List.mem_of_mem_drop hx))) (by simp; omega) (by simp; omega)
      · rw [if_neg (fun h => he h.2)]
        exact ev_neg he (ev_val (iCopy _ (by omega)) (ev_ret rfl))
    · rw [if_neg (fun h => h2 h.1)]
      exact ev_neg (by omega) (ev_val (iCopy _ (by omega)) (ev_ret rfl))
theorem iCoreW (w : List Int) (hl : w.length ≤ 1000000000) : Ev (fun k => impl_CoreWord.f k w) (if isWordB w = true then core w else []) := by
  unfold impl_CoreWord.f
  refine ev_bind (iIsWord w (by omega)) ?_
  by_cases h : isWordB w = true
  · have hb := isWordB_bd h
    have := red_len w
    rw [if_pos h]
    exact ev_pos h (ev_bind (iReduce w (fun x hx => by have := hb.1 x hx; omega) hl) (iCore_l0 _ _ (fun x hx => by have := hb.1 x (red_mem hx); omega) (by omega) (Nat.le_refl _)))
  · rw [if_neg h]
    exact ev_neg h (ev_ret rfl)

theorem iTurn (l : List Int) (i : Nat) (hi : i < l.length) (hl : l.length ≤ 1000000000) : impl_turn.f l (i : Int) = some (rot l i) := by
  unfold impl_turn.f impl_mod.f
  rw [if_neg (by omega), if_neg (by omega)]
  have e : Int.tmod (i : Int) (l.length : Int) = (i : Int) := by
    rw [Int.tmod_eq_emod_of_nonneg (by omega)]
    exact Int.emod_eq_of_lt (by omega) (by omega)
  rw [e, if_neg (by omega)]
  simp only [Option.bind_some, Int.toNat_natCast]
  rw [if_pos (by omega), if_pos (by omega), iCopy _ (by simp; omega)]
  simp only [Option.bind_some]
  rw [if_pos (by simp; omega)]
  rfl
theorem iTurn_nil (i : Int) : impl_turn.f [] i = some [] := by
  unfold impl_turn.f; simp

theorem iSame_l0 : ∀ (a p q b : List Int), p.length = q.length → a.length = b.length → (p ++ a).length < 9000000000000000000 → Ev (fun k => impl_sameInts.l0 k (p ++ a) (q ++ b) ((p ++ a).length : Int) p.length) (decide (a = b)) := by
  intro a
  induction a with
  | nil =>
    intro p q b hpq hab _
    obtain rfl : b = [] := by cases b; rfl; simp at hab
    refine Ev.step (fun k => by rw [impl_sameInts.l0]) ?_
    exact ev_neg (by simp) (ev_ret (by simp))
  | cons x a ih =>
    intro p q b hpq hab hl
    obtain ⟨y, b, rfl⟩ : ∃ y c, b = y :: c := by cases b with | nil => simp at hab | cons y c => exact ⟨y, c, rfl⟩
    refine Ev.step (fun k => by rw [impl_sameInts.l0]) ?_
    refine ev_pos (by simp; omega) (ev_pos (by omega) (ev_pos (by simp; omega) (ev_pos (by simp; omega) ?_)))
    have e2 : rd (q ++ y :: b) (p.length : Int) = y := by rw [hpq]; exact rd_app q y b
    rw [rd_app, e2]
    by_cases hxy : x = y
    · subst hxy
      refine ev_pos rfl ?_
      have h := ih (p ++ [x]) (q ++ [x]) b (by simp [hpq]) (by simpa using hab) (by simpa using hl)
      rw [w64 (by omega) (by simp at hl; omega)]
      rw [List.append_assoc, List.append_assoc, List.singleton_append, List.singleton_append, len_snoc] at h
      have e : decide (x :: a = x :: b) = decide (a = b) := by simp
      rw [e]
      exact h
    · exact ev_neg hxy (ev_ret (by simp [hxy]))
theorem iSame (a b : List Int) (hl : a.length < 9000000000000000000) : Ev (fun k => impl_sameInts.f k a b) (decide (a = b)) := by
  unfold impl_sameInts.f
  by_cases h : a.length = b.length
  · have h1 := iSame_l0 a [] [] b rfl h (by simpa using hl)
    simp only [List.nil_append] at h1
    exact ev_pos (by omega) h1
  · exact ev_neg (by omega) (ev_ret (by have hn : ¬ a = b := fun e => h (by rw [e]); simp [hn]))

theorem iConj_l0 (a b : List Int) (hl : a.length ≤ 1000000000) (h0 : 0 < a.length) : ∀ (d i : Nat), i + d = a.length → Ev (fun k => impl_AreConjugate.l0 k a b (mx (a.length : Int) 1) (i : Int)) ((List.range' i d).any (fun k => rot a k == b)) := by
  have hm : mx (a.length : Int) 1 = (a.length : Int) := by unfold mx; split <;> omega
  rw [hm]
  intro d
  induction d with
  | zero =>
    intro i hi
    refine Ev.step (fun k => by rw [impl_AreConjugate.l0]) ?_
    exact ev_neg (by omega) (ev_ret (by simp))
  | succ d ih =>
    intro i hi
    refine Ev.step (fun k => by rw [impl_AreConjugate.l0]) ?_
    refine ev_pos (by omega) (ev_val (iTurn a i (by omega) hl) ?_)
    refine ev_bind (iSame (rot a i) b (by rw [rot_length]; omega)) ?_
    rw [any_range'_succ]
    by_cases h : rot a i = b
    · exact ev_pos (by simp [h]) (ev_ret (by simp [h]))
    · refine ev_neg (by simp [h]) ?_
      rw [w64 (by omega) (by omega)]
      refine ev_eq (ih (i + 1) (by omega)) ?_
      have : (rot a i == b) = false := by simp [h]
      rw [this, Bool.false_or]
theorem iConj_any (a b : List Int) (h0 : 0 < a.length) : (List.range' 0 a.length).any (fun k => rot a k == b) = rotEq a b := by
  rw [Bool.eq_iff_iff, rotEq_iff]
  simp only [List.any_eq_true, List.mem_range'_1, beq_iff_eq]
  constructor
  · rintro ⟨k, hk, h⟩; exact ⟨k, by omega, h⟩
  · rintro ⟨k, hk, h⟩
    by_cases hk2 : k = a.length
    · refine ⟨0, by omega, ?_⟩
      rw [rot_zero]
      rw [hk2, rot_full] at h
      exact h
    · exact ⟨k, by omega, h⟩
theorem iConj (v w : List Int) (hv : v.length ≤ 1000000000) (hw : w.length ≤ 1000000000) : Ev (fun k => impl_AreConjugate.f k v w) (conjB v w) := by
  unfold impl_AreConjugate.f conjB
  refine ev_bind (iIsWord v (by omega)) ?_
  by_cases h1 : isWordB v = true
  · refine ev_pos h1 (ev_bind (iIsWord w (by omega)) ?_)
    refine Ev.step (fun k => by rw [impl_AreConjugate.j0]) ?_
    by_cases h2 : isWordB w = true
    · have e1 := iCoreW v hv
      have e2 := iCoreW w hw
      rw [if_pos h1] at e1
      rw [if_pos h2] at e2
      refine ev_neg (by simp [h2]) (ev_bind e1 (ev_bind e2 ?_))
      have hc := core_len v
      rw [h1, h2, Bool.true_and, Bool.true_and]
      by_cases hl : (core v).length = (core w).length
      · refine ev_pos (by omega) ?_
        by_cases h0 : 0 < (core v).length
        · have h := iConj_l0 (core v) (core w) (by omega) h0 (core v).length 0 (by omega)
          rw [iConj_any _ _ h0] at h
          exact h
        · have ev : core v = [] := List.eq_nil_of_length_eq_zero (by omega)
          have ew : core w = [] := List.eq_nil_of_length_eq_zero (by omega)
          rw [ev, ew]
          refine Ev.step (fun k => by rw [impl_AreConjugate.l0]) ?_
          refine ev_pos (by simp [mx]) (ev_val (iTurn_nil 0) (ev_bind (iSame [] [] (by simp)) (ev_pos (by simp) (ev_ret (by rfl)))))
      · refine ev_neg (by omega) (ev_ret ?_)
        cases h : rotEq (core v) (core w)
        · rfl
        · exact absurd (rotEq_len h) hl
    · exact ev_pos (by simp [h2]) (ev_ret (by simp [h2]))
  · refine ev_neg h1 ?_
    refine Ev.step (fun k => by rw [impl_AreConjugate.j0]) ?_
    exact ev_pos rfl (ev_ret (by simp [h1]))

theorem iInv_l0 : ∀ (n : Nat) (p q out : List Int), p.length = n → (∀ x ∈ p ++ q, -1000000 ≤ x ∧ x ≤ 1000000) → n ≤ 1000000000 → out.length + n ≤ 1000000000 → Ev (fun k => impl_inverse.l0 k (p ++ q) out ((n : Int) - 1)) (out ++ invW p) := by
  intro n
  induction n with
  | zero =>
    intro p q out hp hb hl ho
    obtain rfl : p = [] := List.eq_nil_of_length_eq_zero hp
    refine Ev.step (fun k => by rw [impl_inverse.l0]) ?_
    exact ev_neg (by simp) (ev_ret (by simp [invW]))
  | succ n ih =>
    intro p q out hp hb hl ho
    rcases List.eq_nil_or_concat p with rfl | ⟨p, x, rfl⟩
    · simp at hp
    · rw [List.concat_eq_append] at hp hb ⊢
      have hn : p.length = n := by simpa using hp
      have hx := hb x (by simp)
      have e1 : (((n + 1 : Nat) : Int)) - 1 = (p.length : Int) := by omega
      rw [e1]
      refine Ev.step (fun k => by rw [impl_inverse.l0]) ?_
      rw [List.append_assoc, List.singleton_append, rd_app, w64 (n := -x) (by omega) (by omega), w64 (by omega) (by omega)]
      refine ev_pos (by omega) (ev_pos (by omega) (ev_pos (by simp; omega) (ev_pos (by omega) ?_)))
      have h := ih p (x :: q) (out ++ [-x]) hn (by simpa using hb) (by omega) (by simp; omega)
      rw [hn]
      refine ev_eq h ?_
      simp [invW]
theorem iInv (w : List Int) (hb : ∀ x ∈ w, -1000000 ≤ x ∧ x ≤ 1000000) (hl : w.length ≤ 1000000000) : Ev (fun k => impl_inverse.f k w) (invW w) := by
  have h := iInv_l0 w.length w [] [] rfl (by simpa using hb) hl (by simp; omega)
  simp only [List.append_nil, List.nil_append] at h
  unfold impl_inverse.f
  rw [w64 (by omega) (by omega)]
  exact h

theorem iLike (w v : List Int) (hb : ∀ x ∈ w, -1000000 ≤ x ∧ x ≤ 1000000) (hw : w.length ≤ 1000000000) (hv : v.length ≤ 1000000000) : Ev (fun k => impl_isLike.f k w v) (likeB v w) := by
  unfold impl_isLike.f likeB
  refine ev_bind (iConj w v hw hv) ?_
  rw [conjB_symm w v]
  by_cases h : conjB v w = true
  · exact ev_pos h (ev_ret (by simp [h]))
  · refine ev_neg h (ev_bind (iInv w hb hw) (ev_bind (iConj (invW w) v (by rw [invW_length]; exact hw) hv) (ev_ret ?_)))
    rw [conjB_symm]
    simp [h]

theorem iSimple (w : List Int) (hb : ∀ x ∈ w, -9223372036854775808 ≤ x ∧ x ≤ 9223372036854775807) (hl : w.length ≤ 1000000000) : Ev (fun k => impl_IsSimpleWord.f k w) (simpleA w) := by
  unfold impl_IsSimpleWord.f simpleA
  have hs := wslopeA_bd w
  refine ev_bind (iWordSlope w hb (by omega)) ?_
  by_cases h : (wslopeA w).2.2 = true
  · have b := fitsB_bd (wslopeA_fits h)
    have sb := swordA_bd (wslopeA w).1 (wslopeA w).2.1
    refine ev_pos h (ev_bind (iSword _ _ (by omega) (by omega)) ?_)
    by_cases h2 : (swordA (wslopeA w).1 (wslopeA w).2.1).2 = true
    · refine ev_pos h2 (ev_bind (iLike w _ (fun x hx => by have := b.2.1 x hx; omega) hl (by omega)) (ev_ret (by simp [h, h2])))
    · exact ev_neg h2 (ev_ret (by simp [h2]))
  · exact ev_neg h (ev_ret (by simp [h]))

theorem cross_bd {a b c d : Int} (ha : -1000 ≤ a ∧ a ≤ 1000) (hb : -1000 ≤ b ∧ b ≤ 1000) (hc : -1000 ≤ c ∧ c ≤ 1000) (hd : -1000 ≤ d ∧ d ≤ 1000) : -1000000 ≤ a * b ∧ a * b ≤ 1000000 := by
  have h : (a * b).natAbs ≤ 1000 * 1000 := by
    rw [Int.natAbs_mul]
    exact Nat.mul_le_mul (by omega) (by omega)
  omega
def crossA (v w : List Int) : Int := if simpleA v = true ∧ simpleA w = true then (((wslopeA v).1 * (wslopeA w).2.1 - (wslopeA v).2.1 * (wslopeA w).1).natAbs : Int) else -1
theorem simpleA_slope {w : List Int} (h : simpleA w = true) : slopeB (wslopeA w).1 (wslopeA w).2.1 = true := by
  unfold simpleA at h
  simp only [Bool.and_eq_true] at h
  have h2 := h.1.2
  unfold swordA at h2
  split at h2
  · next hh => exact hh.1
  · cases h2
theorem crossV (v w : List Int) : -2000000 ≤ (wslopeA v).1 * (wslopeA w).2.1 - (wslopeA v).2.1 * (wslopeA w).1 ∧ (wslopeA v).1 * (wslopeA w).2.1 - (wslopeA v).2.1 * (wslopeA w).1 ≤ 2000000 ∧ wrap64 (wrap64 ((wslopeA v).1 * (wslopeA w).2.1) - wrap64 ((wslopeA v).2.1 * (wslopeA w).1)) = (wslopeA v).1 * (wslopeA w).2.1 - (wslopeA v).2.1 * (wslopeA w).1 := by
  have a := wslopeA_bd v
  have b := wslopeA_bd w
  have h1 := cross_bd (a := (wslopeA v).1) (b := (wslopeA w).2.1) (c := 0) (d := 0) (by omega) (by omega) (by omega) (by omega)
  have h2 := cross_bd (a := (wslopeA v).2.1) (b := (wslopeA w).1) (c := 0) (d := 0) (by omega) (by omega) (by omega) (by omega)
  refine ⟨by omega, by omega, ?_⟩
  rw [w64 (n := (wslopeA v).1 * (wslopeA w).2.1) (by omega) (by omega), w64 (n := (wslopeA v).2.1 * (wslopeA w).1) (by omega) (by omega), w64 (by omega) (by omega)]
theorem sCross (v w : List Int) (hv : ∀ x ∈ v, -9223372036854775808 ≤ x ∧ x ≤ 9223372036854775807) (hw : ∀ x ∈ w, -9223372036854775808 ≤ x ∧ x ≤ 9223372036854775807) (lv : v.length ≤ 1000000000) (lw : w.length ≤ 1000000000) : Ev (fun k => spec_CountCross.f k v w) (crossA v w) := by
  unfold spec_CountCross.f crossA
  have a := wslopeA_bd v
  have b := wslopeA_bd w
  have c := crossV v w
  refine ev_bind (sSimple v hv lv) ?_
  by_cases h1 : simpleA v = true
  · refine ev_pos h1 (ev_bind (sSimple w hw lw) (Ev.step (fun k => by rw [spec_CountCross.j0]) ?_))
    by_cases h2 : simpleA w = true
    · rw [if_pos ⟨h1, h2⟩]
      refine ev_neg (by simp [h2]) (ev_bind (sWordSlope v hv (by omega)) (ev_bind (sWordSlope w hw (by omega)) ?_))
      have e : Ev (fun k => spec_CrossNumber.f k (wslopeA v).1 (wslopeA v).2.1 (wslopeA w).1 (wslopeA w).2.1) (((wslopeA v).1 * (wslopeA w).2.1 - (wslopeA v).2.1 * (wslopeA w).1).natAbs : Int) := by
        unfold spec_CrossNumber.f
        rw [c.2.2]
        exact ev_bind (sIsSlope _ _ (by omega) (by omega)) (ev_pos (simpleA_slope h1) (ev_bind (sIsSlope _ _ (by omega) (by omega)) (ev_pos (simpleA_slope h2) (ev_val (sAbs (by omega) (by omega)) (ev_ret rfl)))))
      exact ev_bind e (ev_ret rfl)
    · rw [if_neg (fun h => h2 h.2)]
      exact ev_pos (by simp [h2]) (ev_ret rfl)
  · rw [if_neg (fun h => h1 h.1)]
    exact ev_neg h1 (Ev.step (fun k => by rw [spec_CountCross.j0]) (ev_pos rfl (ev_ret rfl)))
theorem iCross (v w : List Int) (hv : ∀ x ∈ v, -9223372036854775808 ≤ x ∧ x ≤ 9223372036854775807) (hw : ∀ x ∈ w, -9223372036854775808 ≤ x ∧ x ≤ 9223372036854775807) (lv : v.length ≤ 1000000000) (lw : w.length ≤ 1000000000) : Ev (fun k => impl_CountCross.f k v w) (crossA v w) := by
  unfold impl_CountCross.f crossA
  have c := crossV v w
  refine ev_bind (iSimple v hv lv) ?_
  by_cases h1 : simpleA v = true
  · refine ev_pos h1 (ev_bind (iSimple w hw lw) (Ev.step (fun k => by rw [impl_CountCross.j0]) ?_))
    by_cases h2 : simpleA w = true
    · rw [if_pos ⟨h1, h2⟩]
      refine ev_neg (by simp [h2]) (ev_bind (iWordSlope v hv (by omega)) (ev_bind (iWordSlope w hw (by omega)) ?_))
      have e : impl_cross.f (wslopeA v).1 (wslopeA v).2.1 (wslopeA w).1 (wslopeA w).2.1 = some (((wslopeA v).1 * (wslopeA w).2.1 - (wslopeA v).2.1 * (wslopeA w).1).natAbs : Int) := by
        unfold impl_cross.f
        rw [c.2.2, iSize (by omega) (by omega)]
        rfl
      exact ev_val e (ev_ret rfl)
    · rw [if_neg (fun h => h2 h.2)]
      exact ev_pos (by simp [h2]) (ev_ret rfl)
  · rw [if_neg (fun h => h1 h.1)]
    exact ev_neg h1 (Ev.step (fun k => by rw [impl_CountCross.j0]) (ev_pos rfl (ev_ret rfl)))
theorem FnExactCountCross : laws_FnExactCountCross.Pure := by
  intro l m hm hl hb hm2 hl2 hb2
  have hb' : ∀ x ∈ l, -9223372036854775808 ≤ x ∧ x ≤ 9223372036854775807 := fun x hx => wfb (hb x hx)
  have hb2' : ∀ x ∈ m, -9223372036854775808 ≤ x ∧ x ≤ 9223372036854775807 := fun x hx => wfb (hb2 x hx)
  apply Ev.rounds
  unfold laws_FnExactCountCross.f
  by_cases hbig : (l.length : Int) > 1048576
  · exact ev_pos hbig (ev_ret rfl)
  · refine ev_neg hbig ?_
    by_cases hbig2 : (m.length : Int) > 1048576
    · exact ev_pos hbig2 (ev_ret rfl)
    · have ht := toIntS_ev l (by omega)
      have hs := toIntS_ev m (by omega)
      exact ev_neg hbig2 (ev_bind ht (ev_bind hs (ev_bind (sCross l m hb' hb2' (by omega) (by omega)) (ev_bind ht (ev_bind hs (ev_bind (iCross l m hb' hb2' (by omega) (by omega)) (ev_pos rfl (ev_bind ht (ev_bind (eqIntS_ev l l (by omega)) (ev_pos (decide_eq_true rfl) (ev_bind hs (ev_bind (eqIntS_ev m m (by omega)) (ev_pos (decide_eq_true rfl) (ev_ret rfl))))))))))))))

end Go.Proofs.Ytdhklpfdfcfffaa.Pure
