/- The program and the reference agree for all arguments (WordSlope); no condition. -/
import Derived.Test.YtdhklpfdfcfffaaPFnExactWordSlopex6
namespace Go.Proofs.Ytdhklpfdfcfffaa.Pure
open Go.RowKit Go.Proofs.Ytdhklpfdfcfffaa.PFnExactWordSlope Go.Proofs.YtdhklpfdfcfffaaW.PrintWords Go.Proofs.YtdhklpfdfcfffaaW.PrintLast Go.Proofs.YtdhklpfdfcfffaaW.PrintMore
set_option linter.unusedVariables false
set_option linter.unusedSimpArgs false

theorem ge_dec (a b c : Int) : (if a ≥ b then some (decide (a ≤ c)) else some false) = some (decide (b ≤ a ∧ a ≤ c)) := by
  split
  · next h => have h' : b ≤ a := h; simp [h']
  · next h => have h' : ¬ b ≤ a := h; simp [h']
theorem w64 {n : Int} (h0 : -9223372036854775808 ≤ n) (h1 : n ≤ 9223372036854775807) : wrap64 n = n := by
  unfold wrap64; omega

section
variable {α β : Type}
theorem ev_pos {c : Prop} [Decidable c] {A B : Nat → Option α} {r : α} (hc : c) (h : Ev A r) : Ev (fun k => if c then A k else B k) r := by simp only [if_pos hc]; exact h
theorem ev_neg {c : Prop} [Decidable c] {A B : Nat → Option α} {r : α} (hc : ¬ c) (h : Ev B r) : Ev (fun k => if c then A k else B k) r := by simp only [if_neg hc]; exact h
theorem ev_ite {c : Prop} [Decidable c] {A B : Nat → Option α} {r : α} (h1 : c → Ev A r) (h2 : ¬ c → Ev B r) : Ev (fun k => if c then A k else B k) r := by
  by_cases hc : c
  · exact ev_pos hc (h1 hc)
  · exact ev_neg hc (h2 hc)
theorem ev_val {x : Option β} {F : Nat → β → Option α} {a : β} {r : α} (hx : x = some a) (h : Ev (fun k => F k a) r) : Ev (fun k => x.bind (F k)) r := by subst hx; exact h
theorem ev_ret {r s : α} (h : r = s) : Ev (fun _ => some r) s := by subst h; exact Ev.now _
theorem ev_of {x : Option α} {r : α} (h : x = some r) : Ev (fun _ => x) r := by subst h; exact Ev.now _
theorem ev_bind {g : Nat → Option β} {F : Nat → β → Option α} {a : β} {r : α} (h : Ev g a) (k : Ev (fun n => F n a) r) : Ev (fun n => (g n).bind (F n)) r := Ev.bind h k
theorem ev_at {g : Nat → Option α} {r : α} (hg : ∀ k, LeO (g k) (g (k + 1))) (k : Nat) (h : g k = some r) : Ev g r := Ev.of hg h
end
theorem ev_eq {α : Type} {g : Nat → Option α} {r s : α} (h : Ev g r) (e : r = s) : Ev g s := e ▸ h
theorem ev_fun {α : Type} {g f : Nat → Option α} {r : α} (h : Ev f r) (e : ∀ k, g k = f k) : Ev g r := Ev.congr e h
theorem ev_unique {α : Type} {g : Nat → Option α} {r s : α} (h : Ev g r) (h' : Ev g s) : r = s := by
  obtain ⟨K, h⟩ := h
  obtain ⟨K', h'⟩ := h'
  have a := h (max K K') (by omega)
  have b := h' (max K K') (by omega)
  rw [a] at b
  exact Option.some.inj b

theorem rd_app (l : List Int) (x : Int) (m : List Int) : rd (l ++ x :: m) (l.length : Int) = x := by simp [rd]
theorem set_app (l : List Int) (x y : Int) (m : List Int) : (l ++ x :: m).set ((l.length : Int).toNat) y = l ++ y :: m := by simp
theorem len_snoc (l : List Int) (x : Int) : (((l ++ [x]).length : Nat) : Int) = (l.length : Int) + 1 := by simp

theorem eqIntS_l0 (p : List Int) : ∀ (a q b : List Int), p.length = q.length → a.length = b.length → (p ++ a).length < 9223372036854775807 → Ev (fun k => laws_eqIntS.l0 k (p ++ a) (q ++ b) p.length) (decide (a = b)) := by
  intro a
  induction a generalizing p with
  | nil =>
    intro q b hpq hab _
    obtain rfl : b = [] := by cases b; rfl; simp at hab
    refine Ev.step (fun k => by rw [laws_eqIntS.l0]) ?_
    refine ev_neg (by simp) (ev_ret (by simp))
  | cons x a ih =>
    intro q b hpq hab hl
    obtain ⟨y, b, rfl⟩ : ∃ y c, b = y :: c := by cases b with | nil => simp at hab | cons y c => exact ⟨y, c, rfl⟩
    refine Ev.step (fun k => by rw [laws_eqIntS.l0]) ?_
    refine ev_pos (by simp; omega) (ev_pos (by omega) (ev_pos (by simp; omega) ?_))
    have e2 : rd (q ++ y :: b) (p.length : Int) = y := by rw [hpq]; exact rd_app q y b
    rw [rd_app, e2]
    by_cases hxy : x = y
    · subst hxy
      refine ev_pos rfl ?_
      have h := ih (p ++ [x]) (q ++ [x]) b (by simp [hpq]) (by simpa using hab) (by simpa using hl)
      rw [w64 (by omega) (by simp at hl; omega)]
      simp only [List.append_assoc, List.singleton_append, List.length_append, List.length_singleton] at h
      have e : decide (x :: a = x :: b) = decide (a = b) := by simp
      rw [e]
      exact h
    · refine ev_neg hxy (ev_ret (by simp [hxy]))
theorem eqIntS_ev (a b : List Int) (hl : a.length < 9223372036854775807) : Ev (fun k => laws_eqIntS.f k a b) (decide (a = b)) := by
  by_cases h : a.length = b.length
  · have h1 := eqIntS_l0 [] a [] b rfl h (by simpa using hl)
    simp only [List.nil_append] at h1
    refine Ev.congr (f := fun k => laws_eqIntS.l0 k a b 0) (fun k => ?_) h1
    unfold laws_eqIntS.f
    simp [h]
  · unfold laws_eqIntS.f
    have hn : ¬ a = b := fun e => h (by rw [e])
    exact ev_neg (by omega) (ev_ret (by simp [hn]))

theorem i64_lo : IntKind.i64.min = -9223372036854775808 := by decide
theorem i64_hi : IntKind.i64.max = 9223372036854775807 := by decide
theorem wfb {x : Int} (h : (Lit.int .i64 x).wf = true) : -9223372036854775808 ≤ x ∧ x ≤ 9223372036854775807 := by
  have h' : (decide (IntKind.i64.min ≤ x) && decide (x ≤ IntKind.i64.max)) = true := h
  rw [i64_lo, i64_hi] at h'
  simpa using h'
theorem toIntS_l0 : ∀ (q p : List Int) (z : List Int), z.length = q.length → (p ++ q).length < 9000000000000000000 → Ev (fun k => laws_toIntS.l0 k (p ++ q) (p ++ z) p.length) (p ++ q) := by
  intro q
  induction q with
  | nil =>
    intro p z hz hl
    obtain rfl : z = [] := by cases z; rfl; simp at hz
    refine Ev.step (fun k => by rw [laws_toIntS.l0]) ?_
    exact ev_neg (by simp) (ev_ret rfl)
  | cons x q ih =>
    intro p z hz hl
    obtain ⟨y, z, rfl⟩ : ∃ y c, z = y :: c := by cases z with | nil => simp at hz | cons y c => exact ⟨y, c, rfl⟩
    refine Ev.step (fun k => by rw [laws_toIntS.l0]) ?_
    refine ev_pos (by simp; omega) (ev_pos (by omega) (ev_pos (by simp; omega) ?_))
    rw [rd_app, set_app, w64 (by omega) (by simp at hl; omega)]
    have h := ih (p ++ [x]) z (by simpa using hz) (by simpa using hl)
    simp only [List.append_assoc, List.singleton_append, List.length_append, List.length_singleton, Int.natCast_add, Int.natCast_one] at h
    exact h
theorem toIntS_ev (l : List Int) (hl : l.length ≤ 35184372088832) : Ev (fun k => laws_toIntS.f k l) l := by
  have h := toIntS_l0 l [] (List.replicate l.length 0) (by simp) (by simp; omega)
  simp only [List.nil_append] at h
  unfold laws_toIntS.f
  refine ev_pos (by omega) (ev_pos (by simpa using hl) ?_)
  rw [show ((l.length : Int)).toNat = l.length by simp]
  exact h

theorem gcd_step (a b : Int) : (Int.gcd b (Int.tmod a b)) = Int.gcd a b := by
  unfold Int.gcd
  rw [Int.natAbs_tmod, Nat.gcd_comm b.natAbs, ← Nat.gcd_rec, Nat.gcd_comm]
theorem gcd_small {a b : Int} (hb : b ≠ 0) : (Int.tmod a b).natAbs < b.natAbs := by
  rw [Int.natAbs_tmod]
  exact Nat.mod_lt _ (by omega)
def slopeB (p q : Int) : Bool := decide ((-1000 ≤ p ∧ p ≤ 1000) ∧ (0 ≤ q ∧ q ≤ 1000) ∧ Int.gcd p q = 1 ∧ (q > 0 ∨ p = 1))
theorem slopeB_bd {p q : Int} (h : slopeB p q = true) : (-1000 ≤ p ∧ p ≤ 1000) ∧ (0 ≤ q ∧ q ≤ 1000) ∧ Int.gcd p q = 1 ∧ (q > 0 ∨ p = 1) := by
  unfold slopeB at h; exact of_decide_eq_true h

def slopeOfA (p q : Int) : Int × Int × Bool :=
  if (-1000 ≤ p ∧ p ≤ 1000) ∧ (-1000 ≤ q ∧ q ≤ 1000) ∧ ¬ (p = 0 ∧ q = 0) then
    (if q < 0 ∨ (q = 0 ∧ p < 0) then (-(p.tdiv (Int.gcd p q)), -(q.tdiv (Int.gcd p q)), true) else (p.tdiv (Int.gcd p q), q.tdiv (Int.gcd p q), true))
  else (0, 0, false)
theorem tdiv_abs (a : Int) (n : Nat) : (a.tdiv (n : Int)).natAbs ≤ a.natAbs := by
  rw [Int.natAbs_tdiv]
  exact Nat.div_le_self _ _
theorem gcd_pos' {p q : Int} (h : ¬ (p = 0 ∧ q = 0)) : 0 < Int.gcd p q := by
  rcases Nat.eq_zero_or_pos (Int.gcd p q) with h0 | h0
  · rw [Int.gcd_eq_zero_iff] at h0
    exact absurd h0 h
  · exact h0
theorem tdiv_sign {a : Int} {n : Nat} (hn : 0 < n) (hd : (n : Int) ∣ a) : (a.tdiv (n : Int) < 0 ↔ a < 0) ∧ (a.tdiv (n : Int) = 0 ↔ a = 0) := by
  obtain ⟨c, rfl⟩ := hd
  rw [Int.mul_tdiv_cancel_left c (by omega)]
  have hn' : (0 : Int) < (n : Int) := by omega
  refine ⟨⟨fun h => ?_, fun h => ?_⟩, ⟨fun h => ?_, fun h => ?_⟩⟩
  · exact Int.mul_neg_of_pos_of_neg hn' h
  · rcases (by omega : c < 0 ∨ 0 ≤ c) with hc | hc
    · exact hc
    · have := Int.mul_nonneg (Int.le_of_lt hn') hc
      omega
  · rw [h]; simp
  · rcases Int.mul_eq_zero.mp h with h | h
    · omega
    · exact h

theorem sMax (a b : Int) : spec_l1Max.f a b = some (mx b a) := by
  unfold spec_l1Max.f mx; by_cases h : b < a
  · rw [if_pos h, if_pos h]
  · rw [if_neg h, if_neg h]

theorem sAbs {x : Int} (h0 : -9223372036854775807 ≤ x) (h1 : x ≤ 9223372036854775807) : spec_l3Abs.f x = some (x.natAbs : Int) := by
  unfold spec_l3Abs.f
  rw [sMax, w64 (by omega) (by omega)]
  simp only [Option.bind_some]
  congr 1
  unfold mx
  split <;> omega
theorem sAbs_min : spec_l3Abs.f (-9223372036854775808) = some (-9223372036854775808) := by decide +kernel

theorem sGcd_l0 : ∀ (n : Nat) (a b : Int), b.natAbs < n → -1000000000000 ≤ a → a ≤ 1000000000000 → -1000000000000 ≤ b → b ≤ 1000000000000 → Ev (fun k => spec_l11Gcd.l0 k a b) (Int.gcd a b : Int) := by
  intro n
  induction n with
  | zero => intro a b h; omega
  | succ n ih =>
    intro a b hn ha0 ha1 hb0 hb1
    refine Ev.step (fun k => by rw [spec_l11Gcd.l0]) ?_
    by_cases hb : b = 0
    · subst hb
      refine ev_pos rfl (ev_val (sAbs (by omega) (by omega)) (ev_ret ?_))
      simp
    · have hs := gcd_small (a := a) hb
      have h := ih b (Int.tmod a b) (by omega) hb0 hb1 (by omega) (by omega)
      rw [gcd_step] at h
      exact ev_neg hb h
theorem sGcd (a b : Int) (ha0 : -1000000000000 ≤ a) (ha1 : a ≤ 1000000000000) (hb0 : -1000000000000 ≤ b) (hb1 : b ≤ 1000000000000) : Ev (fun k => spec_l11Gcd.f k a b) (Int.gcd a b : Int) :=
  sGcd_l0 (b.natAbs + 1) a b (by omega) ha0 ha1 hb0 hb1

theorem in_eq (a b c : Int) : spec_l1In.f a b c = some (decide (b ≤ a ∧ a ≤ c)) := by
  unfold spec_l1In.f; exact ge_dec a b c

theorem sSlopeOf (p q : Int) : Ev (fun k => spec_SlopeOf.f k p q) (slopeOfA p q) := by
  unfold spec_SlopeOf.f
  have bad : ¬ ((-1000 ≤ p ∧ p ≤ 1000) ∧ (-1000 ≤ q ∧ q ≤ 1000) ∧ ¬ (p = 0 ∧ q = 0)) → Ev (fun k => spec_SlopeOf.j0 k p q true) (slopeOfA p q) := by
    intro h
    refine Ev.step (fun k => by rw [spec_SlopeOf.j0]) (ev_pos rfl (ev_ret ?_))
    unfold slopeOfA; rw [if_neg h]
  refine ev_val (in_eq _ _ _) ?_
  by_cases h1 : -1000 ≤ p ∧ p ≤ 1000
  · refine ev_pos (by simpa using h1) (ev_val (in_eq _ _ _) ?_)
    by_cases h2 : -1000 ≤ q ∧ q ≤ 1000
    · refine ev_pos (by simpa using h2) ?_
      by_cases h3 : p = 0 ∧ q = 0
      · refine ev_pos h3.1 ?_
        have : (q == 0) = true := by simp [h3.2]
        rw [this]
        exact bad (fun h => h.2.2 h3)
      · have e : Ev (fun k => spec_SlopeOf.j0 k p q false) (slopeOfA p q) := by
          refine Ev.step (fun k => by rw [spec_SlopeOf.j0]) (ev_neg (by simp) (ev_bind (sGcd p q (by omega) (by omega) (by omega) (by omega)) ?_))
          have hg := gcd_pos' h3
          have hle : (Int.gcd p q : Int) ≤ 1000 := by
            by_cases hq : q = 0
            · subst hq; simp; omega
            · have := Nat.le_of_dvd (by omega) (Nat.gcd_dvd_right p.natAbs q.natAbs)
              unfold Int.gcd
              omega
          have hp := tdiv_abs p (Int.gcd p q)
          have hq := tdiv_abs q (Int.gcd p q)
          have eA : slopeOfA p q = (if q < 0 ∨ (q = 0 ∧ p < 0) then (-(p.tdiv (Int.gcd p q)), -(q.tdiv (Int.gcd p q)), true) else (p.tdiv (Int.gcd p q), q.tdiv (Int.gcd p q), true)) := by
            unfold slopeOfA; rw [if_pos ⟨h1, h2, h3⟩]
          rw [eA]
          have e1 : wrap64 (-(Int.gcd p q : Int)) = -(Int.gcd p q : Int) := w64 (by omega) (by omega)
          have e2 : wrap64 (p.tdiv (-(Int.gcd p q : Int))) = -(p.tdiv (Int.gcd p q)) := by rw [Int.tdiv_neg]; exact w64 (by omega) (by omega)
          have e3 : wrap64 (q.tdiv (-(Int.gcd p q : Int))) = -(q.tdiv (Int.gcd p q)) := by rw [Int.tdiv_neg]; exact w64 (by omega) (by omega)
          have e4 : wrap64 (p.tdiv (Int.gcd p q)) = p.tdiv (Int.gcd p q) := w64 (by omega) (by omega)
          have e5 : wrap64 (q.tdiv (Int.gcd p q)) = q.tdiv (Int.gcd p q) := w64 (by omega) (by omega)
          simp only [e1, e2, e3, e4, e5]
          by_cases h4 : q < 0
          · rw [if_pos (Or.inl h4)]
            exact ev_pos h4 (ev_neg (by omega) (ev_ret rfl))
          · refine ev_neg h4 ?_
            by_cases h5 : q = 0
            · refine ev_pos h5 ?_
              by_cases h6 : p < 0
              · rw [if_pos (Or.inr ⟨h5, h6⟩)]
                exact ev_pos h6 (ev_neg (by omega) (ev_ret rfl))
              · rw [if_neg (show ¬ (q < 0 ∨ (q = 0 ∧ p < 0)) by omega)]
                exact ev_neg h6 (ev_neg (by omega) (ev_ret rfl))
            · rw [if_neg (show ¬ (q < 0 ∨ (q = 0 ∧ p < 0)) by omega)]
              exact ev_neg h5 (ev_neg (by omega) (ev_ret rfl))
        by_cases h4 : p = 0
        · refine ev_pos h4 ?_
          have : (q == 0) = false := by simp; exact fun h => h3 ⟨h4, h⟩
          rw [this]; exact e
        · exact ev_neg h4 e
    · exact ev_neg (by simpa using h2) (bad (fun h => h2 h.2.1))
  · exact ev_neg (by simpa using h1) (bad (fun h => h1 h.1))

def isLet (x : Int) : Bool := decide ((1 ≤ x ∧ x ≤ 8) ∨ (-8 ≤ x ∧ x ≤ -1))
def isWordB (w : List Int) : Bool := w.all isLet && decide (w.length ≤ 24)
theorem isWordB_bd {w : List Int} (h : isWordB w = true) : (∀ x ∈ w, -8 ≤ x ∧ x ≤ 8 ∧ x ≠ 0) ∧ w.length ≤ 24 := by
  unfold isWordB at h
  simp only [Bool.and_eq_true, List.all_eq_true, decide_eq_true_eq] at h
  refine ⟨fun x hx => ?_, h.2⟩
  have := h.1 x hx
  unfold isLet at this
  have := of_decide_eq_true this
  omega

def lStep (out : List Int) (x : Int) : List Int := if x > 0 then out.set (x - 1).toNat (wrap64 (rd out (x - 1) + 1)) else out.set (-x - 1).toNat (wrap64 (rd out (-x - 1) - 1))
def lsum (w : List Int) : List Int := w.foldl lStep (List.replicate 8 0)
theorem lStep_len (out : List Int) (x : Int) : (lStep out x).length = out.length := by unfold lStep; split <;> simp
theorem lsum_len (w : List Int) : (lsum w).length = 8 := by
  have : ∀ (w out : List Int), (w.foldl lStep out).length = out.length := by
    intro w
    induction w with
    | nil => intro out; rfl
    | cons x w ih => intro out; rw [List.foldl_cons, ih, lStep_len]
  unfold lsum
  rw [this]; simp

theorem sLetter (x : Int) : spec_l2Letter.f x = some (isLet x) := by
  unfold spec_l2Letter.f isLet
  rw [in_eq, in_eq]
  simp only [Option.bind_some, decide_eq_true_eq]
  by_cases h : 1 ≤ x ∧ x ≤ 8
  · rw [if_pos h]; simp [h]
  · rw [if_neg h]; simp [h]
theorem sIsWord_l0 : ∀ (q p : List Int), (p ++ q).length < 9000000000000000000 → Ev (fun k => spec_IsWord.l0 k (p ++ q) p.length) (q.all isLet && decide ((p ++ q).length ≤ 24)) := by
  intro q
  induction q with
  | nil =>
    intro p hl
    refine Ev.step (fun k => by rw [spec_IsWord.l0]) ?_
    refine ev_neg (by simp) (ev_ret ?_)
    simp; omega
  | cons x q ih =>
    intro p hl
    refine Ev.step (fun k => by rw [spec_IsWord.l0]) ?_
    refine ev_pos (by simp; omega) (ev_pos (by omega) ?_)
    rw [rd_app, w64 (by omega) (by simp at hl; omega)]
    refine ev_val (sLetter x) ?_
    have h := ih (p ++ [x]) (by simpa using hl)
    simp only [List.append_assoc, List.singleton_append, List.length_append, List.length_singleton, Int.natCast_add, Int.natCast_one] at h
    cases hx : isLet x
    · exact ev_neg (by simp) (ev_ret (by simp [hx]))
    · refine ev_pos rfl (ev_eq h ?_)
      simp [hx]
theorem sIsWord (w : List Int) (hl : w.length < 9000000000000000000) : Ev (fun k => spec_IsWord.f k w) (isWordB w) := by
  have h := sIsWord_l0 w [] (by simpa using hl)
  simp only [List.nil_append] at h
  exact h

theorem sLsum_l0 : ∀ (q p out : List Int), (∀ x ∈ p ++ q, -8 ≤ x ∧ x ≤ 8 ∧ x ≠ 0) → (p ++ q).length ≤ 1000000 → out.length = 8 → Ev (fun k => spec_LetterSums.l0 k (p ++ q) out p.length) (q.foldl lStep out) := by
  intro q
  induction q with
  | nil =>
    intro p out hb hl ho
    refine Ev.step (fun k => by rw [spec_LetterSums.l0]) ?_
    exact ev_neg (by simp) (ev_ret rfl)
  | cons x q ih =>
    intro p out hb hl ho
    have hx := hb x (by simp)
    have h := ih (p ++ [x]) (lStep out x) (by simpa using hb) (by simpa using hl) (by rw [lStep_len, ho])
    rw [List.append_assoc, List.singleton_append, len_snoc] at h
    rw [List.foldl_cons]
    refine Ev.step (fun k => by rw [spec_LetterSums.l0]) ?_
    refine ev_pos (by simp; omega) (ev_pos (by omega) ?_)
    rw [rd_app, w64 (n := (p.length : Int) + 1) (by omega) (by simp at hl; omega)]
    by_cases hp : x > 0
    · rw [w64 (n := x - 1) (by omega) (by omega)]
      refine ev_pos hp (ev_pos (by omega) (ev_pos (by omega) ?_))
      have e : lStep out x = out.set (x - 1).toNat (wrap64 (rd out (x - 1) + 1)) := by unfold lStep; rw [if_pos hp]
      rw [e] at h ⊢
      exact h
    · rw [w64 (n := -x) (by omega) (by omega), w64 (n := -x - 1) (by omega) (by omega)]
      refine ev_neg hp (ev_pos (by omega) (ev_pos (by omega) ?_))
      have e : lStep out x = out.set (-x - 1).toNat (wrap64 (rd out (-x - 1) - 1)) := by unfold lStep; rw [if_neg hp]
      rw [e] at h ⊢
      exact h
theorem sLsum (w : List Int) (hw : isWordB w = true) : Ev (fun k => spec_LetterSums.f k w) (lsum w) := by
  have b := isWordB_bd hw
  unfold spec_LetterSums.f
  refine ev_bind (sIsWord w (by omega)) (ev_pos hw (ev_pos (by decide) ?_))
  have h := sLsum_l0 w [] (List.replicate 8 0) (by simpa using b.1) (by simp; omega) (by simp)
  simp only [List.nil_append] at h
  exact h

def twoLet (x : Int) : Bool := decide (-2 ≤ x ∧ x ≤ 2)
def fitsB (w : List Int) : Bool := isWordB w && w.all twoLet
theorem fitsB_bd {w : List Int} (h : fitsB w = true) : isWordB w = true ∧ (∀ x ∈ w, -2 ≤ x ∧ x ≤ 2 ∧ x ≠ 0) ∧ w.length ≤ 24 := by
  unfold fitsB at h
  simp only [Bool.and_eq_true, List.all_eq_true] at h
  have b := isWordB_bd h.1
  refine ⟨h.1, fun x hx => ?_, b.2⟩
  have := h.2 x hx
  unfold twoLet at this
  have := of_decide_eq_true this
  have := b.1 x hx
  omega
theorem isWordB_min {p q : List Int} : isWordB (p ++ (-9223372036854775808) :: q) = false := by
  unfold isWordB
  simp [isLet]

theorem sFits_l0 : ∀ (q p : List Int), (∀ x ∈ p ++ q, -9223372036854775808 ≤ x ∧ x ≤ 9223372036854775807) → (p ++ q).length < 9000000000000000000 → Ev (fun k => spec_l20Fits.l0 k (p ++ q) p.length) (isWordB (p ++ q) && q.all twoLet) := by
  intro q
  induction q with
  | nil =>
    intro p hb hl
    refine Ev.step (fun k => by rw [spec_l20Fits.l0]) ?_
    refine ev_neg (by simp) (ev_bind (sIsWord _ hl) (ev_ret (by simp)))
  | cons x q ih =>
    intro p hb hl
    have hx := hb x (by simp)
    refine Ev.step (fun k => by rw [spec_l20Fits.l0]) ?_
    refine ev_pos (by simp; omega) (ev_pos (by omega) ?_)
    rw [rd_app, w64 (by omega) (by simp at hl; omega)]
    have h := ih (p ++ [x]) (by simpa using hb) (by simpa using hl)
    rw [List.append_assoc, List.singleton_append, len_snoc] at h
    by_cases hm : x = -9223372036854775808
    · subst hm
      refine ev_val sAbs_min (ev_neg (by omega) (ev_eq h ?_))
      rw [isWordB_min]; rfl
    · refine ev_val (sAbs (by omega) (by omega)) ?_
      by_cases h2 : (x.natAbs : Int) > 2
      · refine ev_pos h2 (ev_ret ?_)
        have : twoLet x = false := by unfold twoLet; simp; omega
        simp [this]
      · refine ev_neg h2 (ev_eq h ?_)
        have : twoLet x = true := by unfold twoLet; simp; omega
        simp [this]
theorem sFitsW (w : List Int) (hb : ∀ x ∈ w, -9223372036854775808 ≤ x ∧ x ≤ 9223372036854775807) (hl : w.length < 9000000000000000000) : Ev (fun k => spec_l20Fits.f k w) (fitsB w) := by
  have h := sFits_l0 w [] (by simpa using hb) (by simpa using hl)
  simp only [List.nil_append] at h
  exact h

def wslopeA (w : List Int) : Int × Int × Bool := if fitsB w = true then slopeOfA (rd (lsum w) 1) (rd (lsum w) 0) else (0, 0, false)
theorem sWordSlope (w : List Int) (hb : ∀ x ∈ w, -9223372036854775808 ≤ x ∧ x ≤ 9223372036854775807) (hl : w.length < 9000000000000000000) : Ev (fun k => spec_WordSlope.f k w) (wslopeA w) := by
  unfold spec_WordSlope.f wslopeA
  refine ev_bind (sFitsW w hb hl) ?_
  by_cases h : fitsB w = true
  · rw [if_pos h]
    have l8 := lsum_len w
    exact ev_pos h (ev_bind (sLsum w (fitsB_bd h).1) (ev_pos (by omega) (ev_pos (by omega) (ev_bind (sSlopeOf _ _) (ev_ret rfl)))))
  · rw [if_neg h]
    exact ev_neg h (ev_ret rfl)

theorem iSize {x : Int} (h0 : -9223372036854775807 ≤ x) (h1 : x ≤ 9223372036854775807) : impl_size.f x = some (x.natAbs : Int) := by
  unfold impl_size.f
  rw [w64 (by omega) (by omega)]
  congr 1
  unfold mx
  split <;> omega
theorem iSize_min : impl_size.f (-9223372036854775808) = some (-9223372036854775808) := by decide +kernel

theorem iGcd_l0 : ∀ (n : Nat) (a b : Int), b.natAbs < n → 0 ≤ a → 0 ≤ b → Ev (fun k => impl_gcd.l0 k a b) (Int.gcd a b : Int) := by
  intro n
  induction n with
  | zero => intro a b h; omega
  | succ n ih =>
    intro a b hn ha0 hb0
    refine Ev.step (fun k => by rw [impl_gcd.l0]) ?_
    by_cases hb : b = 0
    · subst hb
      refine ev_pos rfl (ev_ret ?_)
      simp; omega
    · have hs := gcd_small (a := a) hb
      have h := ih b (Int.tmod a b) (by omega) hb0 (Int.tmod_nonneg b ha0)
      rw [gcd_step] at h
      exact ev_neg hb h
theorem iGcd (a b : Int) (ha0 : -1000000000000 ≤ a) (ha1 : a ≤ 1000000000000) (hb0 : -1000000000000 ≤ b) (hb1 : b ≤ 1000000000000) : Ev (fun k => impl_gcd.f k a b) (Int.gcd a b : Int) := by
  unfold impl_gcd.f
  refine ev_val (iSize (by omega) (by omega)) (ev_val (iSize (by omega) (by omega)) ?_)
  refine ev_eq (iGcd_l0 (b.natAbs + 1) _ _ (by omega) (by omega) (by omega)) ?_
  unfold Int.gcd
  simp

theorem within_eq (a b c : Int) : impl_within.f a b c = some (decide (b ≤ a ∧ a ≤ c)) := by
  unfold impl_within.f; exact ge_dec a b c

theorem iLowest (p q : Int) (h1 : -1000 ≤ p ∧ p ≤ 1000) (h2 : -1000 ≤ q ∧ q ≤ 1000) (h3 : ¬ (p = 0 ∧ q = 0)) : Ev (fun k => impl_lowest.f k p q) ((slopeOfA p q).1, (slopeOfA p q).2.1) ∧ (slopeOfA p q).2.2 = true := by
  have hg := gcd_pos' h3
  have hp := tdiv_abs p (Int.gcd p q)
  have hq := tdiv_abs q (Int.gcd p q)
  have sp := tdiv_sign hg (Int.gcd_dvd_left p q)
  have sq := tdiv_sign hg (Int.gcd_dvd_right p q)
  unfold slopeOfA
  rw [if_pos ⟨h1, h2, h3⟩]
  refine ⟨?_, by split <;> rfl⟩
  unfold impl_lowest.f
  refine ev_bind (iGcd p q (by omega) (by omega) (by omega) (by omega)) ?_
  rw [w64 (n := p.tdiv (Int.gcd p q)) (by omega) (by omega), w64 (n := q.tdiv (Int.gcd p q)) (by omega) (by omega), w64 (n := -(p.tdiv (Int.gcd p q))) (by omega) (by omega), w64 (n := -(q.tdiv (Int.gcd p q))) (by omega) (by omega)]
  refine ev_neg (by omega) ?_
  by_cases h4 : q < 0
  · rw [if_pos (Or.inl h4)]
    exact ev_pos (sq.1.mpr h4) (ev_ret rfl)
  · refine ev_neg (fun h => h4 (sq.1.mp h)) ?_
    by_cases h5 : q = 0
    · refine ev_pos (sq.2.mpr h5) ?_
      by_cases h6 : p < 0
      · rw [if_pos (Or.inr ⟨h5, h6⟩)]
        exact ev_pos (sp.1.mpr h6) (ev_ret rfl)
      · have hn : ¬ (q < 0 ∨ (q = 0 ∧ p < 0)) := by omega
        rw [if_neg hn]
        exact ev_neg (fun h => h6 (sp.1.mp h)) (ev_ret rfl)
    · have hn : ¬ (q < 0 ∨ (q = 0 ∧ p < 0)) := by omega
      rw [if_neg hn]
      exact ev_neg (fun h => h5 (sq.2.mp h)) (ev_ret rfl)
theorem iSlopeOf (p q : Int) : Ev (fun k => impl_SlopeOf.f k p q) (slopeOfA p q) := by
  have main : ¬ (p = 0 ∧ q = 0) → Ev (fun k => (impl_within.f p (-1000) 1000).bind fun t => (if t = true then ((impl_within.f q (-1000) 1000).bind fun t2 => (if t2 = true then ((impl_lowest.f k p q).bind fun b => (some (b.1, b.2, true))) else (some (0, 0, false)))) else (some (0, 0, false)))) (slopeOfA p q) := by
    intro h3
    refine ev_val (within_eq _ _ _) ?_
    by_cases h1 : -1000 ≤ p ∧ p ≤ 1000
    · refine ev_pos (by simpa using h1) (ev_val (within_eq _ _ _) ?_)
      by_cases h2 : -1000 ≤ q ∧ q ≤ 1000
      · have h := iLowest p q h1 h2 h3
        refine ev_pos (by simpa using h2) (ev_bind h.1 (ev_ret ?_))
        rw [← h.2]
      · refine ev_neg (by simpa using h2) (ev_ret ?_)
        unfold slopeOfA; rw [if_neg (fun h => h2 h.2.1)]
    · refine ev_neg (by simpa using h1) (ev_ret ?_)
      unfold slopeOfA; rw [if_neg (fun h => h1 h.1)]
  unfold impl_SlopeOf.f
  by_cases h4 : p = 0
  · refine ev_pos h4 ?_
    by_cases h5 : q = 0
    · refine ev_pos h5 (ev_ret ?_)
      unfold slopeOfA; rw [if_neg (fun h => h.2.2 ⟨h4, h5⟩)]
    · exact ev_neg h5 (main (fun h => h5 h.2))
  · exact ev_neg h4 (main (fun h => h4 h.1))

theorem iLetter (x : Int) : impl_isLetter.f x = some (isLet x) := by
  unfold impl_isLetter.f isLet
  by_cases h : x = 0
  · rw [if_pos h]; subst h; simp
  · rw [if_neg h, within_eq]
    simp only [Option.bind_some]
    congr 1
    rw [decide_eq_decide]
    omega
theorem iIsWord_l0 (w : List Int) : ∀ (q p : List Int), (p ++ q).length < 9000000000000000000 → Ev (fun k => impl_IsWord.l0 k w (p ++ q) ((p ++ q).length : Int) p.length) (q.all isLet && decide (w.length ≤ 24)) := by
  intro q
  induction q with
  | nil =>
    intro p hl
    refine Ev.step (fun k => by rw [impl_IsWord.l0]) ?_
    refine ev_neg (by simp) (ev_ret ?_)
    simp; omega
  | cons x q ih =>
    intro p hl
    refine Ev.step (fun k => by rw [impl_IsWord.l0]) ?_
    refine ev_pos (by simp; omega) (ev_pos (by omega) (ev_pos (by simp; omega) ?_))
    rw [rd_app, w64 (by omega) (by simp at hl; omega)]
    refine ev_val (iLetter x) ?_
    have h := ih (p ++ [x]) (by simpa using hl)
    rw [List.append_assoc, List.singleton_append, len_snoc] at h
    cases hx : isLet x
    · exact ev_neg (by simp) (ev_ret (by simp [hx]))
    · refine ev_pos rfl (ev_eq h ?_)
      simp [hx]
theorem iIsWord (w : List Int) (hl : w.length < 9000000000000000000) : Ev (fun k => impl_IsWord.f k w) (isWordB w) := by
  have h := iIsWord_l0 w w [] (by simpa using hl)
  simp only [List.nil_append] at h
  exact h

theorem iLsum_l0 : ∀ (q p out : List Int), (∀ x ∈ p ++ q, -8 ≤ x ∧ x ≤ 8 ∧ x ≠ 0) → (p ++ q).length ≤ 1000000 → out.length = 8 → Ev (fun k => impl_LetterSums.l0 k out (p ++ q) ((p ++ q).length : Int) p.length) (q.foldl lStep out) := by
  intro q
  induction q with
  | nil =>
    intro p out hb hl ho
    refine Ev.step (fun k => by rw [impl_LetterSums.l0]) ?_
    exact ev_neg (by simp) (ev_ret rfl)
  | cons x q ih =>
    intro p out hb hl ho
    have hx := hb x (by simp)
    have h := ih (p ++ [x]) (lStep out x) (by simpa using hb) (by simpa using hl) (by rw [lStep_len, ho])
    rw [List.append_assoc, List.singleton_append, len_snoc] at h
    rw [List.foldl_cons]
    refine Ev.step (fun k => by rw [impl_LetterSums.l0]) ?_
    refine ev_pos (by simp; omega) (ev_pos (by omega) (ev_pos (by simp; omega) ?_))
    rw [rd_app, w64 (n := (p.length : Int) + 1) (by omega) (by simp at hl; omega)]
    by_cases hp : x > 0
    · rw [w64 (n := x - 1) (by omega) (by omega)]
      refine ev_pos hp (ev_pos (by omega) (ev_pos (by omega) ?_))
      have e : lStep out x = out.set (x - 1).toNat (wrap64 (rd out (x - 1) + 1)) := by unfold lStep; rw [if_pos hp]
      rw [e] at h ⊢
      exact h
    · rw [w64 (n := -x) (by omega) (by omega), w64 (n := -x - 1) (by omega) (by omega)]
      refine ev_neg hp (ev_pos (by omega) (ev_pos (by omega) ?_))
      have e : lStep out x = out.set (-x - 1).toNat (wrap64 (rd out (-x - 1) - 1)) := by unfold lStep; rw [if_neg hp]
      rw [e] at h ⊢
      exact h
theorem iLsum (w : List Int) (hw : isWordB w = true) : Ev (fun k => impl_LetterSums.f k w) (lsum w) := by
  have b := isWordB_bd hw
  unfold impl_LetterSums.f
  refine ev_bind (iIsWord w (by omega)) (ev_pos hw (ev_pos (by decide) ?_))
  have h := iLsum_l0 w [] (List.replicate 8 0) (by simpa using b.1) (by simp; omega) (by simp)
  simp only [List.nil_append] at h
  exact h

theorem iFits_l0 (w : List Int) (hw : w.length < 9000000000000000000) : ∀ (q p : List Int), w = p ++ q → (∀ x ∈ p ++ q, -9223372036854775808 ≤ x ∧ x ≤ 9223372036854775807) → Ev (fun k => impl_hasLetters.l0 k w 2 (p ++ q) ((p ++ q).length : Int) p.length) (isWordB w && q.all twoLet) := by
  intro q
  induction q with
  | nil =>
    intro p he hb
    refine Ev.step (fun k => by rw [impl_hasLetters.l0]) ?_
    refine ev_neg (by simp) (ev_bind (iIsWord _ hw) (ev_ret (by simp)))
  | cons x q ih =>
    intro p he hb
    have hx := hb x (by simp)
    have hl : (p ++ x :: q).length < 9000000000000000000 := by rw [← he]; exact hw
    refine Ev.step (fun k => by rw [impl_hasLetters.l0]) ?_
    refine ev_pos (by simp; omega) (ev_pos (by omega) (ev_pos (by simp; omega) ?_))
    rw [rd_app, w64 (by omega) (by simp at hl; omega)]
    have h := ih (p ++ [x]) (by simpa using he) (by simpa using hb)
    rw [List.append_assoc, List.singleton_append, len_snoc] at h
    by_cases hm : x = -9223372036854775808
    · subst hm
      refine ev_val iSize_min (ev_neg (by omega) (ev_eq h ?_))
      rw [he, isWordB_min]; rfl
    · refine ev_val (iSize (by omega) (by omega)) ?_
      by_cases h2 : (x.natAbs : Int) > 2
      · refine ev_pos h2 (ev_ret ?_)
        have : twoLet x = false := by unfold twoLet; simp; omega
        simp [this]
      · refine ev_neg h2 (ev_eq h ?_)
        have : twoLet x = true := by unfold twoLet; simp; omega
        simp [this]
theorem iFitsW (w : List Int) (hb : ∀ x ∈ w, -9223372036854775808 ≤ x ∧ x ≤ 9223372036854775807) (hl : w.length < 9000000000000000000) : Ev (fun k => impl_isCurve.f k w) (fitsB w) := by
  have h := iFits_l0 w hl w [] (by simp) (by simpa using hb)
  simp only [List.nil_append] at h
  unfold impl_isCurve.f impl_hasLetters.f
  exact ev_bind h (ev_ret rfl)

theorem iWordSlope (w : List Int) (hb : ∀ x ∈ w, -9223372036854775808 ≤ x ∧ x ≤ 9223372036854775807) (hl : w.length < 9000000000000000000) : Ev (fun k => impl_WordSlope.f k w) (wslopeA w) := by
  unfold impl_WordSlope.f wslopeA
  refine ev_bind (iFitsW w hb hl) ?_
  by_cases h : fitsB w = true
  · rw [if_pos h]
    have l8 := lsum_len w
    exact ev_pos h (ev_bind (iLsum w (fitsB_bd h).1) (ev_pos (by omega) (ev_pos (by omega) (ev_bind (iSlopeOf _ _) (ev_ret rfl)))))
  · rw [if_neg h]
    exact ev_neg h (ev_ret rfl)

theorem FnExactWordSlope : laws_FnExactWordSlope.Pure := by
  intro l hm hl hb
  have hb' : ∀ x ∈ l, -9223372036854775808 ≤ x ∧ x ≤ 9223372036854775807 := fun x hx => wfb (hb x hx)
  apply Ev.rounds
  unfold laws_FnExactWordSlope.f
  by_cases hbig : (l.length : Int) > 1048576
  · exact ev_pos hbig (ev_ret rfl)
  · have ht := toIntS_ev l (by omega)
    refine ev_neg hbig (ev_bind ht (ev_bind (sWordSlope l hb' (by omega)) (ev_bind ht (ev_bind (iWordSlope l hb' (by omega)) ?_))))
    obtain ⟨⟨x, y, z⟩, hr⟩ : ∃ r, wslopeA l = r := ⟨_, rfl⟩
    rw [hr]
    have he : laws_eqSlope.f x y x y = some true := by unfold laws_eqSlope.f; simp
    refine ev_val he (ev_pos rfl (Ev.step (fun k => by rw [laws_FnExactWordSlope.j0]) (ev_neg (by show ¬ ((z != z) = true); cases z <;> decide) (ev_bind ht (ev_bind (eqIntS_ev l l (by omega)) (ev_pos (decide_eq_true rfl) (ev_ret rfl)))))))

end Go.Proofs.Ytdhklpfdfcfffaa.Pure
