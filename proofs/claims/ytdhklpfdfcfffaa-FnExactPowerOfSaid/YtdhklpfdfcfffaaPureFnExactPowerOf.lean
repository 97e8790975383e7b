/- The program and the reference agree for all arguments (PowerOf); no condition. -/
import Derived.Test.YtdhklpfdfcfffaaPFnExactPowerOfx6
namespace Go.Proofs.Ytdhklpfdfcfffaa.Pure
open Go.RowKit Go.Proofs.Ytdhklpfdfcfffaa.PFnExactPowerOf Go.Proofs.YtdhklpfdfcfffaaW.PrintWords Go.Proofs.YtdhklpfdfcfffaaW.PrintLast Go.Proofs.YtdhklpfdfcfffaaW.PrintMore
set_option linter.unusedVariables false
set_option linter.unusedSimpArgs false

theorem ge_dec (a b c : Int) : (if a ≥ b then some (decide (a ≤ c)) else some false) = some (decide (b ≤ a ∧ a ≤ c)) := by
  split
  · next h => have h' : b ≤ a := h; simp [h']
  · next h => have h' : ¬ b ≤ a := h; simp [h']
theorem w64 {n : Int} (h0 : -9223372036854775808 ≤ n) (h1 : n ≤ 9223372036854775807) : wrap64 n = n := by
  unfold wrap64; omega

section
variable {α β : Type}
theorem ev_pos {c : Prop} [Decidable c] {A B : Nat → Option α} {r : α} (hc : c) (h : Ev A r) : Ev (fun k => if c then A k else B k) r := by simp only [if_pos hc]; exact h
theorem ev_neg {c : Prop} [Decidable c] {A B : Nat → Option α} {r : α} (hc : ¬ c) (h : Ev B r) : Ev (fun k => if c then A k else B k) r := by simp only [if_neg hc]; exact h
theorem ev_ite {c : Prop} [Decidable c] {A B : Nat → Option α} {r : α} (h1 : c → Ev A r) (h2 : ¬ c → Ev B r) : Ev (fun k => if c then A k else B k) r := by
  by_cases hc : c
  · exact ev_pos hc (h1 hc)
  · exact ev_neg hc (h2 hc)
theorem ev_val {x : Option β} {F : Nat → β → Option α} {a : β} {r : α} (hx : x = some a) (h : Ev (fun k => F k a) r) : Ev (fun k => x.bind (F k)) r := by subst hx; exact h
theorem ev_ret {r s : α} (h : r = s) : Ev (fun _ => some r) s := by subst h; exact Ev.now _
theorem ev_of {x : Option α} {r : α} (h : x = some r) : Ev (fun _ => x) r := by subst h; exact Ev.now _
theorem ev_bind {g : Nat → Option β} {F : Nat → β → Option α} {a : β} {r : α} (h : Ev g a) (k : Ev (fun n => F n a) r) : Ev (fun n => (g n).bind (F n)) r := Ev.bind h k
theorem ev_at {g : Nat → Option α} {r : α} (hg : ∀ k, LeO (g k) (g (k + 1))) (k : Nat) (h : g k = some r) : Ev g r := Ev.of hg h
end
theorem ev_eq {α : Type} {g : Nat → Option α} {r s : α} (h : Ev g r) (e : r = s) : Ev g s := e ▸ h
theorem ev_fun {α : Type} {g f : Nat → Option α} {r : α} (h : Ev f r) (e : ∀ k, g k = f k) : Ev g r := Ev.congr e h
theorem ev_unique {α : Type} {g : Nat → Option α} {r s : α} (h : Ev g r) (h' : Ev g s) : r = s := by
  obtain ⟨K, h⟩ := h
  obtain ⟨K', h'⟩ := h'
  have a := h (max K K') (by omega)
  have b := h' (max K K') (by omega)
  rw [a] at b
  exact Option.some.inj b

theorem rd_app (l : List Int) (x : Int) (m : List Int) : rd (l ++ x :: m) (l.length : Int) = x := by simp [rd]
theorem set_app (l : List Int) (x y : Int) (m : List Int) : (l ++ x :: m).set ((l.length : Int).toNat) y = l ++ y :: m := by simp
theorem len_snoc (l : List Int) (x : Int) : (((l ++ [x]).length : Nat) : Int) = (l.length : Int) + 1 := by simp

theorem eqIntS_l0 (p : List Int) : ∀ (a q b : List Int), p.length = q.length → a.length = b.length → (p ++ a).length < 9223372036854775807 → Ev (fun k => laws_eqIntS.l0 k (p ++ a) (q ++ b) p.length) (decide (a = b)) := by
  intro a
  induction a generalizing p with
  | nil =>
    intro q b hpq hab _
    obtain rfl : b = [] := by cases b; rfl; simp at hab
    refine Ev.step (fun k => by rw [laws_eqIntS.l0]) ?_
    refine ev_neg (by simp) (ev_ret (by simp))
  | cons x a ih =>
    intro q b hpq hab hl
    obtain ⟨y, b, rfl⟩ : ∃ y c, b = y :: c := by cases b with | nil => simp at hab | cons y c => exact ⟨y, c, rfl⟩
    refine Ev.step (fun k => by rw [laws_eqIntS.l0]) ?_
    refine ev_pos (by simp; omega) (ev_pos (by omega) (ev_pos (by simp; omega) ?_))
    have e2 : rd (q ++ y :: b) (p.length : Int) = y := by rw [hpq]; exact rd_app q y b
    rw [rd_app, e2]
    by_cases hxy : x = y
    · subst hxy
      refine ev_pos rfl ?_
      have h := ih (p ++ [x]) (q ++ [x]) b (by simp [hpq]) (by simpa using hab) (by simpa using hl)
      rw [w64 (by omega) (by simp at hl; omega)]
      simp only [List.append_assoc, List.singleton_append, List.length_append, List.length_singleton] at h
      have e : decide (x :: a = x :: b) = decide (a = b) := by simp
      rw [e]
      exact h
    · refine ev_neg hxy (ev_ret (by simp [hxy]))
theorem eqIntS_ev (a b : List Int) (hl : a.length < 9223372036854775807) : Ev (fun k => laws_eqIntS.f k a b) (decide (a = b)) := by
  by_cases h : a.length = b.length
  · have h1 := eqIntS_l0 [] a [] b rfl h (by simpa using hl)
    simp only [List.nil_append] at h1
    refine Ev.congr (f := fun k => laws_eqIntS.l0 k a b 0) (fun k => ?_) h1
    unfold laws_eqIntS.f
    simp [h]
  · unfold laws_eqIntS.f
    have hn : ¬ a = b := fun e => h (by rw [e])
    exact ev_neg (by omega) (ev_ret (by simp [hn]))

theorem i64_lo : IntKind.i64.min = -9223372036854775808 := by decide
theorem i64_hi : IntKind.i64.max = 9223372036854775807 := by decide
theorem wfb {x : Int} (h : (Lit.int .i64 x).wf = true) : -9223372036854775808 ≤ x ∧ x ≤ 9223372036854775807 := by
  have h' : (decide (IntKind.i64.min ≤ x) && decide (x ≤ IntKind.i64.max)) = true := h
  rw [i64_lo, i64_hi] at h'
  simpa using h'
theorem toIntS_l0 : ∀ (q p : List Int) (z : List Int), z.length = q.length → (p ++ q).length < 9000000000000000000 → Ev (fun k => laws_toIntS.l0 k (p ++ q) (p ++ z) p.length) (p ++ q) := by
  intro q
  induction q with
  | nil =>
    intro p z hz hl
    obtain rfl : z = [] := by cases z; rfl; simp at hz
    refine Ev.step (fun k => by rw [laws_toIntS.l0]) ?_
    exact ev_neg (by simp) (ev_ret rfl)
  | cons x q ih =>
    intro p z hz hl
    obtain ⟨y, z, rfl⟩ : ∃ y c, z = y :: c := by cases z with | nil => simp at hz | cons y c => exact ⟨y, c, rfl⟩
    refine Ev.step (fun k => by rw [laws_toIntS.l0]) ?_
    refine ev_pos (by simp; omega) (ev_pos (by omega) (ev_pos (by simp; omega) ?_))
    rw [rd_app, set_app, w64 (by omega) (by simp at hl; omega)]
    have h := ih (p ++ [x]) z (by simpa using hz) (by simpa using hl)
    simp only [List.append_assoc, List.singleton_append, List.length_append, List.length_singleton, Int.natCast_add, Int.natCast_one] at h
    exact h
theorem toIntS_ev (l : List Int) (hl : l.length ≤ 35184372088832) : Ev (fun k => laws_toIntS.f k l) l := by
  have h := toIntS_l0 l [] (List.replicate l.length 0) (by simp) (by simp; omega)
  simp only [List.nil_append] at h
  unfold laws_toIntS.f
  refine ev_pos (by omega) (ev_pos (by simpa using hl) ?_)
  rw [show ((l.length : Int)).toNat = l.length by simp]
  exact h

def upto (m : Int) : Nat → List Int
  | 0 => []
  | n + 1 => m :: upto (m + 1) n
theorem upto_length (m : Int) (n : Nat) : (upto m n).length = n := by induction n generalizing m with | zero => rfl | succ n ih => simp [upto, ih]
theorem markIntS_l0 : ∀ (a p : List Int) (m : Int), (p ++ a).length < 1000000000000000000 → 0 ≤ m → m + a.length < 1000000000000000000 → Ev (fun k => laws_markIntS.l0 k (p ++ a) m p.length) (m + a.length, p ++ upto m a.length) := by
  intro a
  induction a with
  | nil =>
    intro p m hl h0 h1
    refine Ev.step (fun k => by rw [laws_markIntS.l0]) ?_
    exact ev_neg (by simp) (ev_ret (by simp [upto]))
  | cons x a ih =>
    intro p m hl h0 h1
    simp only [List.length_append, List.length_cons, Int.natCast_add, Int.natCast_one] at hl h1 ⊢
    refine Ev.step (fun k => by rw [laws_markIntS.l0]) ?_
    refine ev_pos (by simp; omega) (ev_pos (by omega) ?_)
    rw [set_app, w64 (by omega) (by omega), w64 (by omega) (by omega)]
    have h := ih (p ++ [m]) (m + 1) (by simp; omega) (by omega) (by omega)
    simp only [List.append_assoc, List.singleton_append, List.length_append, List.length_singleton, Int.natCast_add, Int.natCast_one] at h
    refine ev_eq h ?_
    simp only [upto]
    rw [show m + 1 + (a.length : Int) = m + (a.length + 1) by omega]
theorem markIntS_ev (a : List Int) (m : Int) (hl : a.length ≤ 1000000000000) (h0 : 0 ≤ m) (h1 : m ≤ 100000000000000000) : Ev (fun k => laws_markIntS.f k a m) (m + a.length, upto m a.length) := by
  have h := markIntS_l0 a [] m (by simp; omega) h0 (by omega)
  simp only [List.nil_append] at h
  exact h
theorem heldIntS_l0 : ∀ (n : Nat) (p : List Int) (m : Int), p.length + n < 1000000000000000000 → 0 ≤ m → m + n < 1000000000000000000 → Ev (fun k => laws_heldIntS.l0 k (p ++ upto m n) m p.length) (m + n) := by
  intro n
  induction n with
  | zero =>
    intro p m hl h0 h1
    refine Ev.step (fun k => by rw [laws_heldIntS.l0]) ?_
    exact ev_neg (by simp [upto]) (ev_ret (by simp))
  | succ n ih =>
    intro p m hl h0 h1
    simp only [Int.natCast_add, Int.natCast_one] at h1 ⊢
    have eu : upto m (n + 1) = m :: upto (m + 1) n := rfl
    rw [eu]
    refine Ev.step (fun k => by rw [laws_heldIntS.l0]) ?_
    refine ev_pos (by simp [upto_length]; omega) (ev_pos (by omega) ?_)
    rw [rd_app, w64 (by omega) (by omega), w64 (by omega) (by omega)]
    refine ev_pos rfl ?_
    have h := ih (p ++ [m]) (m + 1) (by simp; omega) (by omega) (by omega)
    simp only [List.append_assoc, List.singleton_append, List.length_append, List.length_singleton, Int.natCast_add, Int.natCast_one] at h
    exact ev_eq h (by omega)
theorem heldIntS_ev (n : Nat) (m : Int) (hl : n ≤ 1000000000000) (h0 : 0 ≤ m) (h1 : m ≤ 100000000000000000) : Ev (fun k => laws_heldIntS.f k (upto m n) m) (m + n) := by
  have h := heldIntS_l0 n [] m (by simp; omega) h0 (by omega)
  simp only [List.nil_append] at h
  exact h

def isLet (x : Int) : Bool := decide ((1 ≤ x ∧ x ≤ 8) ∨ (-8 ≤ x ∧ x ≤ -1))
def isWordB (w : List Int) : Bool := w.all isLet && decide (w.length ≤ 24)
theorem isWordB_bd {w : List Int} (h : isWordB w = true) : (∀ x ∈ w, -8 ≤ x ∧ x ≤ 8 ∧ x ≠ 0) ∧ w.length ≤ 24 := by
  unfold isWordB at h
  simp only [Bool.and_eq_true, List.all_eq_true, decide_eq_true_eq] at h
  refine ⟨fun x hx => ?_, h.2⟩
  have := h.1 x hx
  unfold isLet at this
  have := of_decide_eq_true this
  omega

def redStep (out : List Int) (x : Int) : List Int := match out.getLast? with
  | some y => if y = -x then out.dropLast else out ++ [x]
  | none => [x]
def red (w : List Int) : List Int := w.foldl redStep []
theorem redStep_nil (x : Int) : redStep [] x = [x] := rfl
theorem redStep_snoc (o : List Int) (y x : Int) : redStep (o ++ [y]) x = if y = -x then o else o ++ [y] ++ [x] := by
  unfold redStep; simp
theorem redStep_mem {out : List Int} {x z : Int} (h : z ∈ redStep out x) : z ∈ out ∨ z = x := by
  rcases List.eq_nil_or_concat out with rfl | ⟨o, y, rfl⟩
  · rw [redStep_nil] at h; simpa using h
  · rw [List.concat_eq_append, redStep_snoc] at h
    rw [List.concat_eq_append]
    split at h
    · left; simp [h]
    · simpa [or_assoc] using h
theorem redStep_len (out : List Int) (x : Int) : (redStep out x).length ≤ out.length + 1 := by
  rcases List.eq_nil_or_concat out with rfl | ⟨o, y, rfl⟩
  · simp [redStep_nil]
  · rw [List.concat_eq_append, redStep_snoc]; split <;> simp; omega
theorem redFold_mem : ∀ (w out : List Int) (z : Int), z ∈ w.foldl redStep out → z ∈ out ∨ z ∈ w := by
  intro w
  induction w with
  | nil => intro out z h; exact .inl h
  | cons x w ih =>
    intro out z h
    rcases ih _ _ h with h | h
    · rcases redStep_mem h with h | h
      · exact .inl h
      · exact .inr (by simp [h])
    · exact .inr (by simp [h])
theorem redFold_len : ∀ (w out : List Int), (w.foldl redStep out).length ≤ out.length + w.length := by
  intro w
  induction w with
  | nil => intro out; simp
  | cons x w ih =>
    intro out
    have h := ih (redStep out x)
    have := redStep_len out x
    simp only [List.foldl_cons, List.length_cons]
    omega
theorem red_mem {w : List Int} {z : Int} (h : z ∈ red w) : z ∈ w := by
  rcases redFold_mem w [] z h with h | h
  · cases h
  · exact h
theorem red_len (w : List Int) : (red w).length ≤ w.length := by
  have h := redFold_len w []
  rw [List.length_nil, Nat.zero_add] at h
  exact h

def coreF : Nat → List Int → List Int
  | 0, l => l
  | n + 1, l => if 2 ≤ l.length ∧ rd l 0 = -(rd l ((l.length : Int) - 1)) then coreF n ((l.take (l.length - 1)).drop 1) else l
def core (w : List Int) : List Int := coreF (red w).length (red w)
theorem coreF_mem : ∀ (n : Nat) (l : List Int) (z : Int), z ∈ coreF n l → z ∈ l := by
  intro n
  induction n with
  | zero => intro l z h; exact h
  | succ n ih =>
    intro l z h
    unfold coreF at h
    split at h
    · exact List.mem_of_mem_take (List.mem_of_mem_drop (ih _ _ h))
    · exact h
theorem coreF_len : ∀ (n : Nat) (l : List Int), (coreF n l).length ≤ l.length := by
  intro n
  induction n with
  | zero => intro l; exact Nat.le_refl _
  | succ n ih =>
    intro l
    unfold coreF
    split
    · have := ih ((l.take (l.length - 1)).drop 1)
      simp at this ⊢
      omega
    · exact Nat.le_refl _
theorem core_mem {w : List Int} {z : Int} (h : z ∈ core w) : z ∈ w := red_mem (coreF_mem _ _ _ h)
theorem core_len (w : List Int) : (core w).length ≤ w.length := Nat.le_trans (coreF_len _ _) (red_len w)
theorem rd_mem {l : List Int} {i : Int} (h0 : 0 ≤ i) (h : i < (l.length : Int)) : rd l i ∈ l := by
  unfold rd
  have h' : i.toNat < l.length := by omega
  rw [List.getD_eq_getElem?_getD, List.getElem?_eq_getElem h']
  simp

theorem sReduce_l0 : ∀ (q p out : List Int), (∀ x ∈ p ++ q, -1000 ≤ x ∧ x ≤ 1000) → (p ++ q).length ≤ 1000000000 → out.length ≤ p.length → Ev (fun k => spec_l2Reduce.l0 k (p ++ q) out p.length) (q.foldl redStep out) := by
  intro q
  induction q with
  | nil =>
    intro p out hb hl ho
    refine Ev.step (fun k => by rw [spec_l2Reduce.l0]) ?_
    exact ev_neg (by simp) (ev_ret rfl)
  | cons x q ih =>
    intro p out hb hl ho
    have hx := hb x (by simp)
    have hlen : p.length + (q.length + 1) ≤ 1000000000 := by simpa using hl
    have step : ∀ out', redStep out x = out' → Ev (fun k => spec_l2Reduce.l0 k (p ++ x :: q) out' (p.length + 1)) ((x :: q).foldl redStep out) := by
      intro out' he
      have h := ih (p ++ [x]) out' (by simpa using hb) (by simpa using hl) (by rw [← he]; have := redStep_len out x; simp; omega)
      simp only [List.append_assoc, List.singleton_append, List.length_append, List.length_singleton, Int.natCast_add, Int.natCast_one] at h
      rw [List.foldl_cons, he]
      exact h
    refine Ev.step (fun k => by rw [spec_l2Reduce.l0]) ?_
    rw [rd_app, w64 (n := (p.length : Int) + 1) (by omega) (by omega)]
    rcases List.eq_nil_or_concat out with rfl | ⟨o, y, rfl⟩
    · refine ev_pos (by simp; omega) (ev_neg (by simp) (ev_pos (by omega) (ev_pos (by simp) ?_)))
      exact step [x] (redStep_nil x)
    · rw [List.concat_eq_append] at ho step ⊢
      have hol : o.length + 1 ≤ p.length := by simpa using ho
      have e1 : ((o ++ [y]).length : Int) = (o.length : Int) + 1 := by simp
      have e2 : (o ++ [y]).take ((o.length : Int)).toNat = o := by simp
      have e3 : rd (o ++ [y]) (o.length : Int) = y := rd_app o y []
      rw [w64 (n := ((o ++ [y]).length : Int) - 1) (by rw [e1]; omega) (by rw [e1]; omega), show ((o ++ [y]).length : Int) - 1 = (o.length : Int) by rw [e1]; omega, e3, e2, w64 (n := -x) (by omega) (by omega), e1]
      refine ev_pos (by simp; omega) (ev_pos (by omega) (ev_pos (by omega) (ev_pos (by omega) (ev_pos (by omega) (ev_ite (fun hy => ?_) (fun hy => ?_))))))
      · exact ev_pos (by omega) (step o (by rw [redStep_snoc, if_pos hy]))
      · exact ev_pos (by simp; omega) (step _ (by rw [redStep_snoc, if_neg hy]))
theorem sReduce (w : List Int) (hb : ∀ x ∈ w, -1000 ≤ x ∧ x ≤ 1000) (hl : w.length ≤ 1000000000) : Ev (fun k => spec_l2Reduce.f k w) (red w) := by
  have h := sReduce_l0 w [] [] (by simpa using hb) (by simpa using hl) (by simp)
  simp only [List.nil_append] at h
  exact h

theorem sCore_l0 : ∀ (n : Nat) (l : List Int), (∀ x ∈ l, -1000 ≤ x ∧ x ≤ 1000) → l.length ≤ 1000000000 → l.length ≤ n → Ev (fun k => spec_l2Core.l0 k l) (coreF n l) := by
  intro n
  induction n with
  | zero =>
    intro l hb hl hn
    obtain rfl : l = [] := by cases l; rfl; simp at hn
    refine Ev.step (fun k => by rw [spec_l2Core.l0]) ?_
    exact ev_neg (by simp) (ev_val rfl (ev_pos (by simp) (ev_ret rfl)))
  | succ n ih =>
    intro l hb hl hn
    refine Ev.step (fun k => by rw [spec_l2Core.l0]) ?_
    unfold coreF
    by_cases h2 : 2 ≤ l.length
    · have hlast := hb _ (rd_mem (l := l) (i := (l.length : Int) - 1) (by omega) (by omega))
      rw [w64 (n := (l.length : Int) - 1) (by omega) (by omega), w64 (n := -(rd l ((l.length : Int) - 1))) (by omega) (by omega)]
      refine ev_pos (by omega) (ev_pos (by omega) (ev_pos (by omega) (ev_pos (by omega) ?_)))
      by_cases he : rd l 0 = -(rd l ((l.length : Int) - 1))
      · rw [if_pos ⟨h2, he⟩]
        refine ev_pos he (ev_pos (by omega) (ev_pos (by omega) ?_))
        rw [show ((l.length : Int) - 1).toNat = l.length - 1 by omega, show (1 : Int).toNat = 1 by rfl]
        exact ih _ (fun x hx => hb x (List.mem_of_mem_take (List.mem_of_mem_drop hx))) (by simp; omega) (by simp; omega)
      · rw [if_neg (fun h => he h.2)]
        exact ev_neg he (ev_val rfl (ev_pos (by simp; omega) (ev_ret (by simp))))
    · rw [if_neg (fun h => h2 h.1)]
      exact ev_neg (by omega) (ev_val rfl (ev_pos (by simp; omega) (ev_ret (by simp))))
theorem sCore (w : List Int) (hb : ∀ x ∈ w, -1000 ≤ x ∧ x ≤ 1000) (hl : w.length ≤ 1000000000) : Ev (fun k => spec_l2Core.f k w) (core w) := by
  unfold spec_l2Core.f
  have := red_len w
  exact ev_bind (sReduce w hb hl) (sCore_l0 _ _ (fun x hx => hb x (red_mem hx)) (by omega) (Nat.le_refl _))

theorem iReduce_l0 : ∀ (q p out : List Int), (∀ x ∈ p ++ q, -1000 ≤ x ∧ x ≤ 1000) → (p ++ q).length ≤ 1000000000 → out.length ≤ p.length → Ev (fun k => impl_reduce.l0 k out (p ++ q) ((p ++ q).length : Int) p.length) (q.foldl redStep out) := by
  intro q
  induction q with
  | nil =>
    intro p out hb hl ho
    refine Ev.step (fun k => by rw [impl_reduce.l0]) ?_
    exact ev_neg (by simp) (ev_ret rfl)
  | cons x q ih =>
    intro p out hb hl ho
    have hx := hb x (by simp)
    have hlen : p.length + (q.length + 1) ≤ 1000000000 := by simpa using hl
    have step : ∀ out', redStep out x = out' → Ev (fun k => impl_reduce.l0 k out' (p ++ x :: q) ((p ++ x :: q).length : Int) (p.length + 1)) ((x :: q).foldl redStep out) := by
      intro out' he
      have h := ih (p ++ [x]) out' (by simpa using hb) (by simpa using hl) (by rw [← he]; have := redStep_len out x; simp; omega)
      rw [List.append_assoc, List.singleton_append, len_snoc] at h
      rw [List.foldl_cons, he]
      exact h
    refine Ev.step (fun k => by rw [impl_reduce.l0]) ?_
    rw [rd_app, w64 (n := (p.length : Int) + 1) (by omega) (by omega)]
    rcases List.eq_nil_or_concat out with rfl | ⟨o, y, rfl⟩
    · refine ev_pos (by simp; omega) (ev_pos (by omega) (ev_pos (by simp; omega) (ev_neg (by simp) (ev_pos (by simp) ?_))))
      exact step [x] (redStep_nil x)
    · rw [List.concat_eq_append] at ho step ⊢
      have hol : o.length + 1 ≤ p.length := by simpa using ho
      have e1 : ((o ++ [y]).length : Int) = (o.length : Int) + 1 := by simp
      have e2 : (o ++ [y]).take ((o.length : Int)).toNat = o := by simp
      have e3 : rd (o ++ [y]) (o.length : Int) = y := rd_app o y []
      rw [w64 (n := ((o ++ [y]).length : Int) - 1) (by rw [e1]; omega) (by rw [e1]; omega), show ((o ++ [y]).length : Int) - 1 = (o.length : Int) by rw [e1]; omega, e3, e2, w64 (n := -x) (by omega) (by omega), e1]
      refine ev_pos (by simp; omega) (ev_pos (by omega) (ev_pos (by simp; omega) (ev_pos (by omega) (ev_pos (by omega) (ev_pos (by omega) (ev_ite (fun hy => ?_) (fun hy => ?_)))))))
      · exact ev_pos (by omega) (step o (by rw [redStep_snoc, if_pos hy]))
      · exact ev_pos (by simp; omega) (step _ (by rw [redStep_snoc, if_neg hy]))
theorem iReduce (w : List Int) (hb : ∀ x ∈ w, -1000 ≤ x ∧ x ≤ 1000) (hl : w.length ≤ 1000000000) : Ev (fun k => impl_reduce.f k w) (red w) := by
  have h := iReduce_l0 w [] [] (by simpa using hb) (by simpa using hl) (by simp)
  simp only [List.nil_append] at h
  exact h

theorem iCopy (l : List Int) (hl : l.length ≤ 10000000000000) : impl_copyOf.f l = some l := by
  unfold impl_copyOf.f
  simp only [Option.bind_some]
  rw [if_pos (by simp; omega)]
  simp

theorem within_eq (a b c : Int) : impl_within.f a b c = some (decide (b ≤ a ∧ a ≤ c)) := by
  unfold impl_within.f; exact ge_dec a b c

theorem iLetter (x : Int) : impl_isLetter.f x = some (isLet x) := by
  unfold impl_isLetter.f isLet
  by_cases h : x = 0
  · rw [if_pos h]; subst h; simp
  · rw [if_neg h, within_eq]
    simp only [Option.bind_some]
    congr 1
    rw [decide_eq_decide]
    omega
theorem iIsWord_l0 (w : List Int) : ∀ (q p : List Int), (p ++ q).length < 9000000000000000000 → Ev (fun k => impl_IsWord.l0 k w (p ++ q) ((p ++ q).length : Int) p.length) (q.all isLet && decide (w.length ≤ 24)) := by
  intro q
  induction q with
  | nil =>
    intro p hl
    refine Ev.step (fun k => by rw [impl_IsWord.l0]) ?_
    refine ev_neg (by simp) (ev_ret ?_)
    simp; omega
  | cons x q ih =>
    intro p hl
    refine Ev.step (fun k => by rw [impl_IsWord.l0]) ?_
    refine ev_pos (by simp; omega) (ev_pos (by omega) (ev_pos (by simp; omega) ?_))
    rw [rd_app, w64 (by omega) (by simp at hl; omega)]
    refine ev_val (iLetter x) ?_
    have h := ih (p ++ [x]) (by simpa using hl)
    rw [List.append_assoc, List.singleton_append, len_snoc] at h
    cases hx : isLet x
    · exact ev_neg (by simp) (ev_ret (by simp [hx]))
    · refine ev_pos rfl (ev_eq h ?_)
      simp [hx]
theorem iIsWord (w : List Int) (hl : w.length < 9000000000000000000) : Ev (fun k => impl_IsWord.f k w) (isWordB w) := by
  have h := iIsWord_l0 w w [] (by simpa using hl)
  simp only [List.nil_append] at h
  exact h

theorem iCore_l0 : ∀ (n : Nat) (l : List Int), (∀ x ∈ l, -1000 ≤ x ∧ x ≤ 1000) → l.length ≤ 1000000000 → l.length ≤ n → Ev (fun k => impl_CoreWord.l0 k l) (coreF n l) := by
  intro n
  induction n with
  | zero =>
    intro l hb hl hn
    obtain rfl : l = [] := by cases l; rfl; simp at hn
    refine Ev.step (fun k => by rw [impl_CoreWord.l0]) ?_
    exact ev_neg (by simp) (ev_val (iCopy _ (by simp)) (ev_ret rfl))
  | succ n ih =>
    intro l hb hl hn
    refine Ev.step (fun k => by rw [impl_CoreWord.l0]) ?_
    unfold coreF
    by_cases h2 : 2 ≤ l.length
    · have hlast := hb _ (rd_mem (l := l) (i := (l.length : Int) - 1) (by omega) (by omega))
      rw [w64 (n := (l.length : Int) - 1) (by omega) (by omega), w64 (n := -(rd l ((l.length : Int) - 1))) (by omega) (by omega)]
      refine ev_pos (by omega) (ev_pos (by omega) (ev_pos (by omega) (ev_pos (by omega) ?_)))
      by_cases he : rd l 0 = -(rd l ((l.length : Int) - 1))
      · rw [if_pos ⟨h2, he⟩]
        refine ev_pos he (ev_pos (by omega) (ev_pos (by omega) ?_))
        rw [show ((l.length : Int) - 1).toNat = l.length - 1 by omega, show (1 : Int).toNat = 1 by rfl]
        exact ih _ (fun x hx => hb x (List.mem_of_mem_take (List.mem_of_mem_drop hx))) (by simp; omega) (by simp; omega)
      · rw [if_neg (fun h => he h.2)]
        exact ev_neg he (ev_val (iCopy _ (by omega)) (ev_ret rfl))
    · rw [if_neg (fun h => h2 h.1)]
      exact ev_neg (by omega) (ev_val (iCopy _ (by omega)) (ev_ret rfl))
theorem iCoreW (w : List Int) (hl : w.length ≤ 1000000000) : Ev (fun k => impl_CoreWord.f k w) (if isWordB w = true then core w else []) := by
  unfold impl_CoreWord.f
  refine ev_bind (iIsWord w (by omega)) ?_
  by_cases h : isWordB w = true
  · have hb := isWordB_bd h
    have := red_len w
    rw [if_pos h]
    exact ev_pos h (ev_bind (iReduce w (fun x hx => by have := hb.1 x hx; omega) hl) (iCore_l0 _ _ (fun x hx => by have := hb.1 x (red_mem hx); omega) (by omega) (Nat.le_refl _)))
  · rw [if_neg h]
    exact ev_neg h (ev_ret rfl)

def rot (l : List Int) (k : Nat) : List Int := l.drop k ++ l.take k
theorem rot_length (l : List Int) (k : Nat) : (rot l k).length = l.length := by unfold rot; simp; omega
theorem rot_zero (l : List Int) : rot l 0 = l := by simp [rot]
theorem rot_back (l : List Int) (k : Nat) (hk : k ≤ l.length) : rot (rot l k) (l.length - k) = l := by
  unfold rot
  have h1 : (l.drop k).length = l.length - k := by simp
  rw [List.drop_left' h1, List.take_left' h1, List.take_append_drop]

theorem sTurn (l : List Int) (i : Nat) (hi : i < l.length) (hl : l.length ≤ 1000000000) : spec_l2Turn.f l (i : Int) = some (rot l i) := by
  unfold spec_l2Turn.f
  rw [if_neg (by omega)]
  have e : Int.tmod (i : Int) (l.length : Int) = (i : Int) := by
    rw [Int.tmod_eq_emod_of_nonneg (by omega)]
    exact Int.emod_eq_of_lt (by omega) (by omega)
  rw [e, if_neg (by omega)]
  simp only [Option.bind_some, Int.toNat_natCast]
  rw [if_pos (by omega), if_pos (by omega), if_pos (by simp; omega), if_pos (by simp; omega)]
  simp [rot]
theorem sTurn_full (l : List Int) (h0 : l ≠ []) (hl : l.length ≤ 1000000000) : spec_l2Turn.f l (l.length : Int) = some l := by
  unfold spec_l2Turn.f
  have hp : 0 < l.length := by cases l; exact absurd rfl h0; simp
  rw [if_neg (by omega)]
  have e : Int.tmod (l.length : Int) (l.length : Int) = 0 := by simp
  rw [e, if_neg (by omega)]
  simp only [Option.bind_some]
  rw [if_pos (by omega), if_pos (by omega), if_pos (by simp; omega), if_pos (by simp; omega)]
  simp

theorem iTurn (l : List Int) (i : Nat) (hi : i < l.length) (hl : l.length ≤ 1000000000) : impl_turn.f l (i : Int) = some (rot l i) := by
  unfold impl_turn.f impl_mod.f
  rw [if_neg (by omega), if_neg (by omega)]
  have e : Int.tmod (i : Int) (l.length : Int) = (i : Int) := by
    rw [Int.tmod_eq_emod_of_nonneg (by omega)]
    exact Int.emod_eq_of_lt (by omega) (by omega)
  rw [e, if_neg (by omega)]
  simp only [Option.bind_some, Int.toNat_natCast]
  rw [if_pos (by omega), if_pos (by omega), iCopy _ (by simp; omega)]
  simp only [Option.bind_some]
  rw [if_pos (by simp; omega)]
  rfl
theorem iTurn_nil (i : Int) : impl_turn.f [] i = some [] := by
  unfold impl_turn.f; simp

theorem sSame_l0 : ∀ (a p q b : List Int), p.length = q.length → a.length = b.length → (p ++ a).length < 9000000000000000000 → Ev (fun k => spec_l2Same.l0 k (p ++ a) (q ++ b) p.length) (decide (a = b)) := by
  intro a
  induction a with
  | nil =>
    intro p q b hpq hab _
    obtain rfl : b = [] := by cases b; rfl; simp at hab
    refine Ev.step (fun k => by rw [spec_l2Same.l0]) ?_
    exact ev_neg (by simp) (ev_ret (by simp))
  | cons x a ih =>
    intro p q b hpq hab hl
    obtain ⟨y, b, rfl⟩ : ∃ y c, b = y :: c := by cases b with | nil => simp at hab | cons y c => exact ⟨y, c, rfl⟩
    refine Ev.step (fun k => by rw [spec_l2Same.l0]) ?_
    refine ev_pos (by simp; omega) (ev_pos (by omega) (ev_pos (by simp; omega) ?_))
    have e2 : rd (q ++ y :: b) (p.length : Int) = y := by rw [hpq]; exact rd_app q y b
    rw [rd_app, e2]
    by_cases hxy : x = y
    · subst hxy
      refine ev_pos rfl ?_
      have h := ih (p ++ [x]) (q ++ [x]) b (by simp [hpq]) (by simpa using hab) (by simpa using hl)
      rw [w64 (by omega) (by simp at hl; omega)]
      rw [List.append_assoc, List.append_assoc, List.singleton_append, List.singleton_append, len_snoc] at h
      have e : decide (x :: a = x :: b) = decide (a = b) := by simp
      rw [e]
      exact h
    · exact ev_neg hxy (ev_ret (by simp [hxy]))
theorem sSame (a b : List Int) (hl : a.length < 9000000000000000000) : Ev (fun k => spec_l2Same.f k a b) (decide (a = b)) := by
  unfold spec_l2Same.f
  by_cases h : a.length = b.length
  · have h1 := sSame_l0 a [] [] b rfl h (by simpa using hl)
    simp only [List.nil_append] at h1
    exact ev_pos (by omega) h1
  · exact ev_neg (by omega) (ev_ret (by have hn : ¬ a = b := fun e => h (by rw [e]); simp [hn]))

theorem iSame_l0 : ∀ (a p q b : List Int), p.length = q.length → a.length = b.length → (p ++ a).length < 9000000000000000000 → Ev (fun k => impl_sameInts.l0 k (p ++ a) (q ++ b) ((p ++ a).length : Int) p.length) (decide (a = b)) := by
  intro a
  induction a with
  | nil =>
    intro p q b hpq hab _
    obtain rfl : b = [] := by cases b; rfl; simp at hab
    refine Ev.step (fun k => by rw [impl_sameInts.l0]) ?_
    exact ev_neg (by simp) (ev_ret (by simp))
  | cons x a ih =>
    intro p q b hpq hab hl
    obtain ⟨y, b, rfl⟩ : ∃ y c, b = y :: c := by cases b with | nil => simp at hab | cons y c => exact ⟨y, c, rfl⟩
    refine Ev.step (fun k => by rw [impl_sameInts.l0]) ?_
    refine ev_pos (by simp; omega) (ev_pos (by omega) (ev_pos (by simp; omega) (ev_pos (by simp; omega) ?_)))
    have e2 : rd (q ++ y :: b) (p.length : Int) = y := by rw [hpq]; exact rd_app q y b
    rw [rd_app, e2]
    by_cases hxy : x = y
    · subst hxy
      refine ev_pos rfl ?_
      have h := ih (p ++ [x]) (q ++ [x]) b (by simp [hpq]) (by simpa using hab) (by simpa using hl)
      rw [w64 (by omega) (by simp at hl; omega)]
      rw [List.append_assoc, List.append_assoc, List.singleton_append, List.singleton_append, len_snoc] at h
      have e : decide (x :: a = x :: b) = decide (a = b) := by simp
      rw [e]
      exact h
    · exact ev_neg hxy (ev_ret (by simp [hxy]))
theorem iSame (a b : List Int) (hl : a.length < 9000000000000000000) : Ev (fun k => impl_sameInts.f k a b) (decide (a = b)) := by
  unfold impl_sameInts.f
  by_cases h : a.length = b.length
  · have h1 := iSame_l0 a [] [] b rfl h (by simpa using hl)
    simp only [List.nil_append] at h1
    exact ev_pos (by omega) h1
  · exact ev_neg (by omega) (ev_ret (by have hn : ¬ a = b := fun e => h (by rw [e]); simp [hn]))

theorem in_eq (a b c : Int) : spec_l1In.f a b c = some (decide (b ≤ a ∧ a ≤ c)) := by
  unfold spec_l1In.f; exact ge_dec a b c

theorem sLetter (x : Int) : spec_l2Letter.f x = some (isLet x) := by
  unfold spec_l2Letter.f isLet
  rw [in_eq, in_eq]
  simp only [Option.bind_some, decide_eq_true_eq]
  by_cases h : 1 ≤ x ∧ x ≤ 8
  · rw [if_pos h]; simp [h]
  · rw [if_neg h]; simp [h]
theorem sIsWord_l0 : ∀ (q p : List Int), (p ++ q).length < 9000000000000000000 → Ev (fun k => spec_IsWord.l0 k (p ++ q) p.length) (q.all isLet && decide ((p ++ q).length ≤ 24)) := by
  intro q
  induction q with
  | nil =>
    intro p hl
    refine Ev.step (fun k => by rw [spec_IsWord.l0]) ?_
    refine ev_neg (by simp) (ev_ret ?_)
    simp; omega
  | cons x q ih =>
    intro p hl
    refine Ev.step (fun k => by rw [spec_IsWord.l0]) ?_
    refine ev_pos (by simp; omega) (ev_pos (by omega) ?_)
    rw [rd_app, w64 (by omega) (by simp at hl; omega)]
    refine ev_val (sLetter x) ?_
    have h := ih (p ++ [x]) (by simpa using hl)
    simp only [List.append_assoc, List.singleton_append, List.length_append, List.length_singleton, Int.natCast_add, Int.natCast_one] at h
    cases hx : isLet x
    · exact ev_neg (by simp) (ev_ret (by simp [hx]))
    · refine ev_pos rfl (ev_eq h ?_)
      simp [hx]
theorem sIsWord (w : List Int) (hl : w.length < 9000000000000000000) : Ev (fun k => spec_IsWord.f k w) (isWordB w) := by
  have h := sIsWord_l0 w [] (by simpa using hl)
  simp only [List.nil_append] at h
  exact h

theorem pow_l0 (c : List Int) (h0 : 0 < c.length) (hl : c.length ≤ 1000000) : ∀ (d i : Nat), 1 ≤ i → i + d = c.length → ∃ r : List Int × Int, Ev (fun k => spec_PowerOf.l0 k c (i : Int)) r ∧ Ev (fun k => impl_PowerOf.l0 k c (c.length : Int) (i : Int)) r ∧ r.1.length ≤ c.length := by
  have hne : c ≠ [] := by intro h; subst h; simp at h0
  intro d
  induction d with
  | zero =>
    intro i h1 hi
    obtain rfl : i = c.length := by omega
    refine ⟨(c, 1), ?_, ?_, Nat.le_refl _⟩
    · refine Ev.step (fun k => by rw [spec_PowerOf.l0]) ?_
      refine ev_neg (by omega) (ev_pos (by simp) (ev_val (sTurn_full c hne (by omega)) (ev_bind (sSame c c (by omega)) (ev_pos (decide_eq_true rfl) (ev_val rfl (ev_pos (by omega) (ev_pos (by omega) (ev_val rfl (ev_pos (by simp; omega) (ev_ret ?_))))))))))
      have e : (c.length : Int) / (c.length : Int) = 1 := Int.ediv_self (by omega)
      rw [e]
      simp [wrap64]
    · refine Ev.step (fun k => by rw [impl_PowerOf.l0]) ?_
      exact ev_neg (by omega) (ev_ret rfl)
  | succ d ih =>
    intro i h1 hi
    obtain ⟨r, hs, hi', hr⟩ := ih (i + 1) (by omega) (by omega)
    have ew : wrap64 ((i : Int) + 1) = ((i + 1 : Nat) : Int) := w64 (by omega) (by omega)
    have et : Int.tmod (c.length : Int) (i : Int) = (c.length : Int) % (i : Int) := Int.tmod_eq_emod_of_nonneg (by omega)
    have ed : Int.tdiv (c.length : Int) (i : Int) = (c.length : Int) / (i : Int) := Int.tdiv_eq_ediv_of_nonneg (by omega)
    by_cases hm : (c.length : Int) % (i : Int) = 0
    · by_cases hr2 : rot c i = c
      · refine ⟨(c.take i, wrap64 ((c.length : Int) / (i : Int))), ?_, ?_, by simp; omega⟩
        · refine Ev.step (fun k => by rw [spec_PowerOf.l0]) ?_
          refine ev_neg (by omega) (ev_pos hm (ev_val (sTurn c i (by omega) (by omega)) (ev_bind (sSame _ c (by rw [rot_length]; omega)) (ev_pos (by simp [hr2]) (ev_val rfl (ev_pos (by omega) (ev_pos (by omega) (ev_val rfl (ev_pos (by simp; omega) (ev_ret ?_))))))))))
          simp
        · refine Ev.step (fun k => by rw [impl_PowerOf.l0]) ?_
          refine ev_pos (by omega) (ev_neg (by omega) (ev_pos (by rw [et]; exact hm) (ev_val (iTurn c i (by omega) (by omega)) (ev_bind (iSame _ c (by rw [rot_length]; omega)) (ev_pos (by simp [hr2]) (ev_pos (by omega) (ev_pos (by omega) (ev_val (iCopy _ (by simp; omega)) (ev_ret ?_)))))))))
          rw [ed]
          simp
      · refine ⟨r, ?_, ?_, hr⟩
        · refine Ev.step (fun k => by rw [spec_PowerOf.l0]) ?_
          refine ev_neg (by omega) (ev_pos hm (ev_val (sTurn c i (by omega) (by omega)) (ev_bind (sSame _ c (by rw [rot_length]; omega)) (ev_neg (by simp [hr2]) ?_))))
          rw [ew]; exact hs
        · refine Ev.step (fun k => by rw [impl_PowerOf.l0]) ?_
          refine ev_pos (by omega) (ev_neg (by omega) (ev_pos (by rw [et]; exact hm) (ev_val (iTurn c i (by omega) (by omega)) (ev_bind (iSame _ c (by rw [rot_length]; omega)) (ev_neg (by simp [hr2]) ?_)))))
          rw [ew]; exact hi'
    · refine ⟨r, ?_, ?_, hr⟩
      · refine Ev.step (fun k => by rw [spec_PowerOf.l0]) ?_
        refine ev_neg (by omega) (ev_neg hm ?_)
        rw [ew]; exact hs
      · refine Ev.step (fun k => by rw [impl_PowerOf.l0]) ?_
        refine ev_pos (by omega) (ev_neg (by omega) (ev_neg (by rw [et]; exact hm) ?_))
        rw [ew]; exact hi'
theorem pow_both (w : List Int) (hl : w.length ≤ 1048576) : ∃ r : List Int × Int, Ev (fun k => spec_PowerOf.f k w) r ∧ Ev (fun k => impl_PowerOf.f k w) r ∧ r.1.length ≤ w.length := by
  unfold spec_PowerOf.f impl_PowerOf.f
  have hi := iCoreW w (by omega)
  by_cases h : isWordB w = true
  · rw [if_pos h] at hi
    have b := isWordB_bd h
    have hc := core_len w
    have hs := sCore w (fun x hx => by have := b.1 x hx; omega) (by omega)
    by_cases h0 : (core w).length = 0
    · refine ⟨([], 0), ?_, ?_, by simp⟩
      · refine ev_bind (sIsWord w (by omega)) (ev_pos h (ev_bind hs ?_))
        refine Ev.step (fun k => by rw [spec_PowerOf.j0]) ?_
        exact ev_pos (by rw [beq_iff_eq]; omega) (ev_ret rfl)
      · exact ev_bind hi (ev_pos (by omega) (ev_ret rfl))
    · obtain ⟨r, h1, h2, h3⟩ := pow_l0 (core w) (by omega) (by omega) ((core w).length - 1) 1 (by omega) (by omega)
      refine ⟨r, ?_, ?_, by omega⟩
      · refine ev_bind (sIsWord w (by omega)) (ev_pos h (ev_bind hs ?_))
        refine Ev.step (fun k => by rw [spec_PowerOf.j0]) ?_
        exact ev_neg (by rw [beq_iff_eq]; omega) (ev_bind hs h1)
      · exact ev_bind hi (ev_neg (by omega) h2)
  · rw [if_neg h] at hi
    refine ⟨([], 0), ?_, ?_, by simp⟩
    · exact ev_bind (sIsWord w (by omega)) (ev_neg h (Ev.step (fun k => by rw [spec_PowerOf.j0]) (ev_pos rfl (ev_ret rfl))))
    · exact ev_bind hi (ev_pos rfl (ev_ret rfl))
theorem FnExactPowerOf : laws_FnExactPowerOf.Pure := by
  intro l hm hl hb
  apply Ev.rounds
  unfold laws_FnExactPowerOf.f
  by_cases hbig : (l.length : Int) > 1048576
  · exact ev_pos hbig (ev_ret rfl)
  · have ht := toIntS_ev l (by omega)
    obtain ⟨⟨r, n⟩, h1, h2, h3⟩ := pow_both l (by omega)
    simp only at h3
    have he := eqIntS_ev r r (by omega)
    refine ev_neg hbig (ev_bind ht (ev_bind h1 (ev_bind ht (ev_bind h2 (ev_bind he (ev_pos (decide_eq_true rfl) ?_))))))
    refine Ev.step (fun k => by rw [laws_FnExactPowerOf.j0]) ?_
    refine ev_neg (by simp) (ev_bind ht (ev_bind (eqIntS_ev l l (by omega)) (ev_pos (decide_eq_true rfl) (ev_bind (markIntS_ev l 1 (by omega) (by omega) (by omega)) (ev_neg (by simp; omega) (ev_bind he (ev_pos (decide_eq_true rfl) ?_)))))))
    refine Ev.step (fun k => by rw [laws_FnExactPowerOf.j1]) ?_
    refine ev_neg (by simp) (ev_bind (markIntS_ev r 1 (by omega) (by omega) (by omega)) (ev_bind (heldIntS_ev r.length 1 (by omega) (by omega) (by omega)) (ev_neg (by omega) (ev_pos rfl (ev_bind ht (ev_bind h2 (ev_bind he (ev_pos (decide_eq_true rfl) ?_))))))))
    refine Ev.step (fun k => by rw [laws_FnExactPowerOf.j2]) ?_
    exact ev_neg (by simp) (ev_bind (heldIntS_ev r.length 1 (by omega) (by omega) (by omega)) (ev_neg (by omega) (ev_pos rfl (ev_ret rfl))))

end Go.Proofs.Ytdhklpfdfcfffaa.Pure
