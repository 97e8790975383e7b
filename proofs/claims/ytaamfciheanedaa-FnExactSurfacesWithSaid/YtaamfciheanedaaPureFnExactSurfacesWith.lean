/- The program and the reference agree for all arguments (SurfacesWith); no condition. -/
import Derived.Test.YtaamfciheanedaaPFnExactSurfacesWithx2
namespace Go.Proofs.Ytaamfciheanedaa.Pure
open Go.RowKit Go.Proofs.Ytaamfciheanedaa.PFnExactSurfacesWith Go.Proofs.YtaamfciheanedaaW.PrintWords Go.Proofs.YtaamfciheanedaaW.PrintLast Go.Proofs.YtaamfciheanedaaW.PrintMore
set_option linter.unusedVariables false
set_option linter.unusedSimpArgs false

theorem ge_dec (a b c : Int) : (if a ≥ b then some (decide (a ≤ c)) else some false) = some (decide (b ≤ a ∧ a ≤ c)) := by
  split
  · next h => have h' : b ≤ a := h; simp [h']
  · next h => have h' : ¬ b ≤ a := h; simp [h']
theorem w64 {n : Int} (h0 : -9223372036854775808 ≤ n) (h1 : n ≤ 9223372036854775807) : wrap64 n = n := by
  unfold wrap64; omega

theorem in_eq (a b c : Int) : spec_l1In.f a b c = some (decide (b ≤ a ∧ a ≤ c)) := by
  unfold spec_l1In.f; exact ge_dec a b c

theorem within_eq (a b c : Int) : impl_within.f a b c = some (decide (b ≤ a ∧ a ≤ c)) := by
  unfold impl_within.f; exact ge_dec a b c


def isSurf (a b c : Int) : Bool := decide ((0 ≤ a ∧ a ≤ 20) ∧ (0 ≤ b ∧ b ≤ 20) ∧ (0 ≤ c ∧ c ≤ 20) ∧ (a = 0 ∨ b = 0))
theorem isSurf_aux (a b c : Int) : ((some (decide (0 ≤ a ∧ a ≤ 20))).bind fun t1 => (if t1 = true then ((some (decide (0 ≤ b ∧ b ≤ 20))).bind fun t2 => (if t2 = true then ((some (decide (0 ≤ c ∧ c ≤ 20))).bind fun t3 => (if t3 = true then (if a = 0 then (some true) else (some (b == 0))) else (some false))) else (some false))) else (some false))) = some (isSurf a b c) := by
  unfold isSurf
  simp only [Option.bind_some, decide_eq_true_eq]
  by_cases h1 : 0 ≤ a ∧ a ≤ 20
  · rw [if_pos h1]
    by_cases h2 : 0 ≤ b ∧ b ≤ 20
    · rw [if_pos h2]
      by_cases h3 : 0 ≤ c ∧ c ≤ 20
      · rw [if_pos h3]
        by_cases h4 : a = 0
        · rw [if_pos h4]; simp [h1, h2, h3, h4]
        · rw [if_neg h4]
          by_cases h5 : b = 0
          · subst h5; simp [h1, h3]
          · simp [h4, h5]
      · rw [if_neg h3]; simp [h3]
    · rw [if_neg h2]; simp [h2]
  · rw [if_neg h1]; simp [h1]
theorem sIsSurface (a b c : Int) : spec_IsSurface.f a b c = some (isSurf a b c) := by
  unfold spec_IsSurface.f; rw [in_eq, in_eq, in_eq]; exact isSurf_aux a b c
theorem iIsSurface (a b c : Int) : impl_IsSurface.f a b c = some (isSurf a b c) := by
  unfold impl_IsSurface.f; rw [within_eq, within_eq, within_eq]; exact isSurf_aux a b c
theorem isSurf_bd {a b c : Int} (h : isSurf a b c = true) : (0 ≤ a ∧ a ≤ 20) ∧ (0 ≤ b ∧ b ≤ 20) ∧ (0 ≤ c ∧ c ≤ 20) ∧ (a = 0 ∨ b = 0) := by
  unfold isSurf at h; exact of_decide_eq_true h

section
variable {α β : Type}
theorem ev_pos {c : Prop} [Decidable c] {A B : Nat → Option α} {r : α} (hc : c) (h : Ev A r) : Ev (fun k => if c then A k else B k) r := by simp only [if_pos hc]; exact h
theorem ev_neg {c : Prop} [Decidable c] {A B : Nat → Option α} {r : α} (hc : ¬ c) (h : Ev B r) : Ev (fun k => if c then A k else B k) r := by simp only [if_neg hc]; exact h
theorem ev_ite {c : Prop} [Decidable c] {A B : Nat → Option α} {r : α} (h1 : c → Ev A r) (h2 : ¬ c → Ev B r) : Ev (fun k => if c then A k else B k) r := by
  by_cases hc : c
  · exact ev_pos hc (h1 hc)
  · exact ev_neg hc (h2 hc)
theorem ev_val {x : Option β} {F : Nat → β → Option α} {a : β} {r : α} (hx : x = some a) (h : Ev (fun k => F k a) r) : Ev (fun k => x.bind (F k)) r := by subst hx; exact h
theorem ev_ret {r s : α} (h : r = s) : Ev (fun _ => some r) s := by subst h; exact Ev.now _
theorem ev_of {x : Option α} {r : α} (h : x = some r) : Ev (fun _ => x) r := by subst h; exact Ev.now _
theorem ev_bind {g : Nat → Option β} {F : Nat → β → Option α} {a : β} {r : α} (h : Ev g a) (k : Ev (fun n => F n a) r) : Ev (fun n => (g n).bind (F n)) r := Ev.bind h k
theorem ev_at {g : Nat → Option α} {r : α} (hg : ∀ k, LeO (g k) (g (k + 1))) (k : Nat) (h : g k = some r) : Ev g r := Ev.of hg h
end
theorem ev_eq {α : Type} {g : Nat → Option α} {r s : α} (h : Ev g r) (e : r = s) : Ev g s := e ▸ h
theorem ev_fun {α : Type} {g f : Nat → Option α} {r : α} (h : Ev f r) (e : ∀ k, g k = f k) : Ev g r := Ev.congr e h
theorem ev_unique {α : Type} {g : Nat → Option α} {r s : α} (h : Ev g r) (h' : Ev g s) : r = s := by
  obtain ⟨K, h⟩ := h
  obtain ⟨K', h'⟩ := h'
  have a := h (max K K') (by omega)
  have b := h' (max K K') (by omega)
  rw [a] at b
  exact Option.some.inj b

theorem rdS_app (l : List S24) (x : S24) (m : List S24) : rd_T24 (l ++ x :: m) (l.length : Int) = x := by simp [rd_T24]
theorem setS_app (l : List S24) (x y : S24) (m : List S24) : (l ++ x :: m).set ((l.length : Int).toNat) y = l ++ y :: m := by simp
theorem lenS_snoc (l : List S24) (x : S24) : (((l ++ [x]).length : Nat) : Int) = (l.length : Int) + 1 := by simp
theorem eqSelf (a b c : Int) : laws_eqSurface.f a b c a b c = some true := by unfold laws_eqSurface.f; simp
theorem eqSurfaceS_l0 : ∀ (q p : List S24), (p ++ q).length ≤ 1000000000 → Ev (fun k => laws_eqSurfaceS.l0 k (p ++ q) (p ++ q) p.length) true := by
  intro q
  induction q with
  | nil =>
    intro p hl
    exact Ev.step (fun k => by rw [laws_eqSurfaceS.l0]) (ev_neg (by simp) (ev_ret rfl))
  | cons x q ih =>
    intro p hl
    have h := ih (p ++ [x]) (by simpa using hl)
    rw [List.append_assoc, List.singleton_append, lenS_snoc] at h
    refine Ev.step (fun k => by rw [laws_eqSurfaceS.l0]) (ev_pos (by simp; omega) (ev_pos (by omega) (ev_pos (by simp; omega) ?_)))
    rw [rdS_app, w64 (by omega) (by simp at hl; omega)]
    exact ev_val (eqSelf _ _ _) (ev_pos rfl h)
theorem eqSurfaceS_ev (a : List S24) (hl : a.length ≤ 1000000000) : Ev (fun k => laws_eqSurfaceS.f k a a) true := by
  have h := eqSurfaceS_l0 a [] (by simpa using hl)
  simp only [List.nil_append] at h
  unfold laws_eqSurfaceS.f
  exact ev_pos rfl h
def uptoS (m : Int) : Nat → List S24
  | 0 => []
  | n + 1 => ⟨m, m + 1, m + 2⟩ :: uptoS (m + 3) n
theorem uptoS_length (m : Int) (n : Nat) : (uptoS m n).length = n := by induction n generalizing m with | zero => rfl | succ n ih => simp [uptoS, ih]
theorem markSurfaceS_l0 : ∀ (a p : List S24) (m : Int), (p ++ a).length ≤ 1000000000 → 0 ≤ m → m + 3 * a.length < 1000000000000000000 → Ev (fun k => laws_markSurfaceS.l0 k (p ++ a) m p.length) (m + 3 * a.length, p ++ uptoS m a.length) := by
  intro a
  induction a with
  | nil =>
    intro p m hl h0 h1
    exact Ev.step (fun k => by rw [laws_markSurfaceS.l0]) (ev_neg (by simp) (ev_ret (by simp [uptoS])))
  | cons x a ih =>
    intro p m hl h0 h1
    simp only [List.length_append, List.length_cons, Int.natCast_add, Int.natCast_one] at hl h1 ⊢
    have h := ih (p ++ [⟨m, m + 1, m + 2⟩]) (m + 3) (by simp; omega) (by omega) (by omega)
    rw [List.append_assoc, List.singleton_append, List.append_assoc, List.singleton_append, lenS_snoc] at h
    refine Ev.step (fun k => by rw [laws_markSurfaceS.l0]) (ev_pos (by simp; omega) (ev_pos (by omega) ?_))
    rw [rdS_app, setS_app]
    refine ev_val rfl ?_
    rw [rdS_app, setS_app]
    refine ev_val rfl ?_
    rw [rdS_app, setS_app]
    rw [w64 (n := m + 1) (by omega) (by omega), w64 (n := m + 1 + 1) (by omega) (by omega), w64 (n := m + 1 + 1 + 1) (by omega) (by omega), w64 (n := (p.length : Int) + 1) (by omega) (by omega)]
    rw [show m + 1 + 1 + 1 = m + 3 by omega, show m + 1 + 1 = m + 2 by omega]
    refine ev_eq h ?_
    simp only [uptoS]
    rw [show m + 3 + 3 * (a.length : Int) = m + 3 * (a.length + 1) by omega]
theorem markSurfaceS_ev (a : List S24) (m : Int) (hl : a.length ≤ 1000000000) (h0 : 0 ≤ m) (h1 : m ≤ 100000000000000000) : Ev (fun k => laws_markSurfaceS.f k a m) (m + 3 * a.length, uptoS m a.length) := by
  have h := markSurfaceS_l0 a [] m (by simp; omega) h0 (by omega)
  simp only [List.nil_append] at h
  exact h
theorem heldSurfaceS_l0 : ∀ (n : Nat) (p : List S24) (m : Int), p.length + n ≤ 1000000000 → 0 ≤ m → m + 3 * n < 1000000000000000000 → Ev (fun k => laws_heldSurfaceS.l0 k (p ++ uptoS m n) m p.length) (m + 3 * n) := by
  intro n
  induction n with
  | zero =>
    intro p m hl h0 h1
    exact Ev.step (fun k => by rw [laws_heldSurfaceS.l0]) (ev_neg (by simp [uptoS]) (ev_ret (by simp)))
  | succ n ih =>
    intro p m hl h0 h1
    simp only [Int.natCast_add, Int.natCast_one] at h1 ⊢
    have h := ih (p ++ [⟨m, m + 1, m + 2⟩]) (m + 3) (by simp; omega) (by omega) (by omega)
    rw [List.append_assoc, List.singleton_append, lenS_snoc] at h
    have eu : uptoS m (n + 1) = ⟨m, m + 1, m + 2⟩ :: uptoS (m + 3) n := rfl
    rw [eu]
    refine Ev.step (fun k => by rw [laws_heldSurfaceS.l0]) (ev_pos (by simp [uptoS_length]; omega) (ev_pos (by omega) ?_))
    rw [rdS_app, w64 (n := m + 1) (by omega) (by omega), w64 (n := m + 1 + 1) (by omega) (by omega), w64 (n := m + 1 + 1 + 1) (by omega) (by omega), w64 (n := (p.length : Int) + 1) (by omega) (by omega)]
    rw [show m + 1 + 1 + 1 = m + 3 by omega, show m + 1 + 1 = m + 2 by omega]
    exact ev_pos rfl (ev_pos rfl (ev_pos rfl (ev_eq h (by omega))))
theorem heldSurfaceS_ev (n : Nat) (m : Int) (hl : n ≤ 1000000000) (h0 : 0 ≤ m) (h1 : m ≤ 100000000000000000) : Ev (fun k => laws_heldSurfaceS.f k (uptoS m n) m) (m + 3 * n) := by
  have h := heldSurfaceS_l0 n [] m (by simp; omega) h0 (by omega)
  simp only [List.nil_append] at h
  exact h

theorem euler_bd {a b c : Int} (h : isSurf a b c = true) : wrap64 (wrap64 (wrap64 (2 - wrap64 (2 * a)) - b) - c) = 2 - 2 * a - b - c := by
  have := isSurf_bd h
  rw [w64 (n := 2 * a) (by omega) (by omega), w64 (n := 2 - 2 * a) (by omega) (by omega), w64 (n := 2 - 2 * a - b) (by omega) (by omega), w64 (by omega) (by omega)]
def eul (a b c : Int) : Int := if isSurf a b c = true then 2 - 2 * a - b - c else -100
theorem sEuler (a b c : Int) : spec_EulerNumber.f a b c = some (eul a b c) := by
  unfold spec_EulerNumber.f eul; rw [sIsSurface]; simp only [Option.bind_some]
  cases h : isSurf a b c
  · simp
  · simp only [if_true]; rw [euler_bd h]
theorem iEuler (a b c : Int) : impl_EulerNumber.f a b c = some (eul a b c) := by
  unfold impl_EulerNumber.f eul; rw [iIsSurface]; simp only [Option.bind_some]
  cases h : isSurf a b c
  · simp
  · simp only [if_true]; rw [euler_bd h]
theorem sw_l2 (e : Int) (he : -10 ≤ e ∧ e ≤ 2) : ∀ (d : Nat) (out : List S24) (b c h : Int), 0 ≤ b → b ≤ 20 → 0 ≤ c → c ≤ 20 → 0 ≤ h → h ≤ 21 → 484 * (21 - b) + 22 * (21 - c) + (21 - h) ≤ d → out.length + d ≤ 100000 →
    ∃ r, Ev (fun k => spec_SurfacesWith.l2 k e out b c h) r ∧ Ev (fun k => impl_SurfacesWith.l2 k e out b c b c h) r ∧ r.length ≤ 100000 := by
  intro d
  induction d with
  | zero => intro out b c h hb0 hb1 hc0 hc1 hh0 hh1 hd; omega
  | succ d ih =>
    intro out b c h hb0 hb1 hc0 hc1 hh0 hh1 hd hl
    by_cases hh : h ≤ 20
    · by_cases hm : eul h c b = e
      · obtain ⟨r, h1, h2, h3⟩ := ih (out ++ [⟨h, c, b⟩]) b c (h + 1) hb0 hb1 hc0 hc1 (by omega) (by omega) (by omega) (by simp; omega)
        refine ⟨r, ?_, ?_, h3⟩
        all_goals first | (refine Ev.step (fun k => by rw [spec_SurfacesWith.l2]) ?_; refine ev_pos hh (ev_val (sEuler h c b) (ev_pos hm (ev_pos (by omega) ?_)))) | (refine Ev.step (fun k => by rw [impl_SurfacesWith.l2]) ?_; refine ev_pos (by omega) (ev_val (iIsSurface h c b) (ev_pos ?_ (ev_val (iEuler h c b) (ev_pos hm (ev_pos (by omega) ?_))))))
        · rw [w64 (by omega) (by omega)]; exact h1
        · cases hs : isSurf h c b
          · unfold eul at hm; rw [hs] at hm; simp at hm; omega
          · rfl
        · rw [w64 (by omega) (by omega)]; exact h2
      · obtain ⟨r, h1, h2, h3⟩ := ih out b c (h + 1) hb0 hb1 hc0 hc1 (by omega) (by omega) (by omega) (by omega)
        refine ⟨r, ?_, ?_, h3⟩
        all_goals first | (refine Ev.step (fun k => by rw [spec_SurfacesWith.l2]) ?_; refine ev_pos hh (ev_val (sEuler h c b) (ev_neg hm ?_))) | (refine Ev.step (fun k => by rw [impl_SurfacesWith.l2]) ?_; refine ev_pos (by omega) (ev_val (iIsSurface h c b) (ev_ite (fun _ => ev_val (iEuler h c b) (ev_neg hm ?_)) (fun _ => ?_))))
        · rw [w64 (by omega) (by omega)]; exact h1
        · rw [w64 (by omega) (by omega)]; exact h2
        · rw [w64 (by omega) (by omega)]; exact h2
    · by_cases hc : c ≤ 19
      · obtain ⟨r, h1, h2, h3⟩ := ih out b (c + 1) 0 hb0 hb1 (by omega) (by omega) (by omega) (by omega) (by omega) (by omega)
        refine ⟨r, ?_, ?_, h3⟩
        all_goals first | (refine Ev.step (fun k => by rw [spec_SurfacesWith.l2]) ?_; refine ev_neg hh ?_) | (refine Ev.step (fun k => by rw [impl_SurfacesWith.l2]) ?_; refine ev_neg (by omega) ?_)
        · rw [w64 (by omega) (by omega)]
          exact Ev.step (fun k => by rw [spec_SurfacesWith.l1]) (ev_pos (by omega) h1)
        · rw [w64 (by omega) (by omega)]
          exact Ev.step (fun k => by rw [impl_SurfacesWith.l1]) (ev_pos (by omega) h2)
      · by_cases hb : b ≤ 19
        · obtain ⟨r, h1, h2, h3⟩ := ih out (b + 1) 0 0 (by omega) (by omega) (by omega) (by omega) (by omega) (by omega) (by omega) (by omega)
          refine ⟨r, ?_, ?_, h3⟩
          all_goals first | (refine Ev.step (fun k => by rw [spec_SurfacesWith.l2]) ?_; refine ev_neg hh ?_) | (refine Ev.step (fun k => by rw [impl_SurfacesWith.l2]) ?_; refine ev_neg (by omega) ?_)
          · rw [w64 (by omega) (by omega)]
            refine Ev.step (fun k => by rw [spec_SurfacesWith.l1]) (ev_neg (by omega) ?_)
            rw [w64 (by omega) (by omega)]
            refine Ev.step (fun k => by rw [spec_SurfacesWith.l0]) (ev_pos (by omega) (ev_val (in_eq _ _ _) ?_))
            refine Ev.step (fun k => by rw [spec_SurfacesWith.j1]) (ev_pos (by simp [he]) ?_)
            exact Ev.step (fun k => by rw [spec_SurfacesWith.l1]) (ev_pos (by omega) h1)
          · rw [w64 (by omega) (by omega)]
            refine Ev.step (fun k => by rw [impl_SurfacesWith.l1]) (ev_neg (by omega) ?_)
            rw [w64 (by omega) (by omega)]
            refine Ev.step (fun k => by rw [impl_SurfacesWith.l0]) (ev_pos (by omega) ?_)
            exact Ev.step (fun k => by rw [impl_SurfacesWith.l1]) (ev_pos (by omega) h2)
        · refine ⟨out, Ev.step (fun k => by rw [spec_SurfacesWith.l2]) (ev_neg hh ?_), Ev.step (fun k => by rw [impl_SurfacesWith.l2]) (ev_neg (by omega) ?_), by omega⟩
          · rw [w64 (by omega) (by omega)]
            refine Ev.step (fun k => by rw [spec_SurfacesWith.l1]) (ev_neg (by omega) ?_)
            rw [w64 (by omega) (by omega)]
            refine Ev.step (fun k => by rw [spec_SurfacesWith.l0]) (ev_neg (by omega) ?_)
            exact Ev.step (fun k => by rw [spec_SurfacesWith.j1]) (ev_neg (by simp) (ev_ret rfl))
          · rw [w64 (by omega) (by omega)]
            refine Ev.step (fun k => by rw [impl_SurfacesWith.l1]) (ev_neg (by omega) ?_)
            rw [w64 (by omega) (by omega)]
            exact Ev.step (fun k => by rw [impl_SurfacesWith.l0]) (ev_neg (by omega) (ev_ret rfl))
theorem sw_both (e : Int) : ∃ r, Ev (fun k => spec_SurfacesWith.f k e) r ∧ Ev (fun k => impl_SurfacesWith.f k e) r ∧ r.length ≤ 100000 := by
  by_cases he : -10 ≤ e ∧ e ≤ 2
  · obtain ⟨r, h1, h2, h3⟩ := sw_l2 e he 20000 [] 0 0 0 (by omega) (by omega) (by omega) (by omega) (by omega) (by omega) (by omega) (by simp)
    refine ⟨r, ?_, ?_, h3⟩
    · refine ev_fun (f := fun k => spec_SurfacesWith.l0 k e [] 0) ?_ (fun k => rfl)
      refine Ev.step (fun k => by rw [spec_SurfacesWith.l0]) (ev_pos (by omega) (ev_val (in_eq _ _ _) ?_))
      refine Ev.step (fun k => by rw [spec_SurfacesWith.j1]) (ev_pos (by simp [he]) ?_)
      exact Ev.step (fun k => by rw [spec_SurfacesWith.l1]) (ev_pos (by omega) h1)
    · unfold impl_SurfacesWith.f
      refine ev_val (within_eq _ _ _) (ev_pos (by simp [he]) ?_)
      refine Ev.step (fun k => by rw [impl_SurfacesWith.l0]) (ev_pos (by omega) ?_)
      exact Ev.step (fun k => by rw [impl_SurfacesWith.l1]) (ev_pos (by omega) h2)
  · refine ⟨[], ?_, ?_, by simp⟩
    · refine ev_fun (f := fun k => spec_SurfacesWith.l0 k e [] 0) ?_ (fun k => rfl)
      refine Ev.step (fun k => by rw [spec_SurfacesWith.l0]) (ev_pos (by omega) (ev_val (in_eq _ _ _) ?_))
      exact Ev.step (fun k => by rw [spec_SurfacesWith.j1]) (ev_neg (by simp; omega) (ev_ret rfl))
    · unfold impl_SurfacesWith.f
      exact ev_val (within_eq _ _ _) (ev_neg (by simp; omega) (ev_ret rfl))
theorem FnExactSurfacesWith : laws_FnExactSurfacesWith.Pure := by
  intro e _
  apply Ev.rounds
  unfold laws_FnExactSurfacesWith.f
  obtain ⟨r, h1, h2, h3⟩ := sw_both e
  have he := eqSurfaceS_ev r (by omega)
  have hh := heldSurfaceS_ev r.length 1 (by omega) (by omega) (by omega)
  refine ev_bind h1 (ev_bind h2 (ev_bind he (ev_pos rfl (ev_bind (markSurfaceS_ev r 1 (by omega) (by omega) (by omega)) (ev_bind hh (ev_neg (by omega) (ev_pos rfl (ev_bind h2 (ev_bind he (ev_pos rfl (ev_bind hh (ev_neg (by omega) (ev_pos rfl (ev_ret rfl))))))))))))))

end Go.Proofs.Ytaamfciheanedaa.Pure
