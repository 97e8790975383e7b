/- A logic of abstract values and heaps over the model's steps, proved sound: for every program that follows mixed orders. -/
import Derived.Test.YtffiddkignmobaaDoorVe2
set_option linter.unusedVariables false
set_option linter.unusedSimpArgs false
section
/- VE, part M: environments, guards, one step (an operation or a call), what a call does. -/
namespace Go.Proofs.YtffiddkignmobaaDoorVe
/-- The temporaries show the environment. -/
def EnvR (x : Cx) (E : Env) (a : Act) : Prop := ∀ t, VR x (E t) (a.tmps.getD t undef)
theorem EnvR.mono {x y : Cx} {E : Env} {a : Act} (h : EnvR x E a) (hx : Ext x y) : EnvR y E a := fun t => (h t).mono hx
theorem EnvR.ev {x : Cx} {E : Env} {a : Act} (h : EnvR x E a) : ∀ q, VR x (E.ev q) (a.eval q)
  | .tmp t => h t
  | .const v => ofVal_vr x v
  | .func f => .fn f [] [] .nil
  | .global g => .undef _
theorem EnvR.put {x : Cx} {E : Env} {a : Act} (h : EnvR x E a) {d : Option Nat} {v : AV} {u : Value} (hv : VR x v u) (hd : ∀ t, d = some t → t < a.tmps.size) : EnvR x (E.put d v) (a.put d u) := by
  cases d with
  | none => exact h
  | some d =>
    intro t
    simp only [Env.put, Env.upd, Act.put, Array.getD_eq_getD_getElem?, Array.getElem?_setIfInBounds]
    by_cases e : t = d
    · subst e
      have := hd t rfl
      simpa [this] using hv
    · have e2 : ¬ d = t := fun c => e c.symm
      have := h t
      simp only [Array.getD_eq_getD_getElem?] at this
      simpa [e, e2] using this
def guardA (ops : Array Oper) (E : Env) (o : Oper) : Option Bool := match o.guard with
  | none => some true
  | some (j, want) => match (ops[j]?).bind (·.dst) with
    | none => some false
    | some d => match E d with
      | .bool b => some (b == want)
      | .tup [] => some false
      | _ => none
theorem guard_sound {x : Cx} {E : Env} {a : Act} (h : EnvR x E a) {ops : Array Oper} {o : Oper} {b : Bool} (hg : guardA ops E o = some b) : Region.wanted o (yielded ops a.tmps) = b := by
  unfold guardA at hg
  unfold Region.wanted
  split at hg
  · rename_i e
    rw [e]; simpa using hg
  · rename_i j want e
    rw [e]
    simp only
    unfold yielded
    split at hg
    · rename_i e2
      rw [e2]
      simp at hg ⊢
      exact hg
    · rename_i d e2
      rw [e2]
      have hd := h d
      split at hg
      · rename_i b' e3
        rw [e3] at hd
        generalize hu : a.tmps.getD d undef = u at hd
        cases hd
        have h4 : a.tmps[d]? = some (.bool b') := by
          rw [Array.getD_eq_getD_getElem?] at hu
          cases h5 : a.tmps[d]? with
          | none => rw [h5] at hu; simp [undef] at hu
          | some v => rw [h5] at hu; simpa using hu
        simp only [Option.bind_some, h4]
        simpa using hg
      · rename_i e3
        rw [e3] at hd
        generalize hu : a.tmps.getD d undef = u at hd
        cases hd with
        | tup _ vs hv =>
          cases hv
          have h4 : a.tmps[d]? = none ∨ a.tmps[d]? = some (.tuple #[]) := by
            rw [Array.getD_eq_getD_getElem?] at hu
            cases h5 : a.tmps[d]? with
            | none => exact .inl rfl
            | some v => rw [h5] at hu; right; simpa using hu
          have hb : false = b := by simpa using hg
          subst hb
          rcases h4 with h4 | h4 <;> simp [h4]
      · cases hg
section
variable (P : Program)
def Enters (f : Nat) : Prop := ∀ (args : Array Value) (w : World), (callFunc f args).run P w = .ok (.enter f args) w
/-- What a call of a function does to an abstract heap: slot s and all from M on are free; what it makes for its caller lies in slot s. -/
def CallV (f : Nat) (args : List AV) (H : Heap) (s : Nat) (R : AV → Heap → Prop) : Prop :=
  Enters P f ∧ ∀ (x : Cx) (vals : List Value) (M : Nat), Rel x → x.H = H → H s = [] → s < M → (∀ t, M ≤ t → H t = []) → VRL x args vals →
    Calls P f vals.toArray x.w fun e w' => ∃ v y av, e = .returned v ∧ y.w = w' ∧ Rel y ∧ Ext x y ∧ VR y av v ∧ (∀ t, t ≠ s → H t = [] → y.H t = []) ∧ R av y.H
def stepV (s : Nat) (E : Env) (H : Heap) (o : Oper) (K : AV → Heap → Prop) : Prop :=
  match o.op with
  | .call ⟨.value f, as, _⟩ => match E.ev f with
    | .fn f caps => CallV P f (as.toList.map E.ev ++ caps) H s K
    | _ => False
  | op => ∃ r, opE P s E.ev H op = some r ∧ K r.1 r.2
end
theorem CallV.mono {P : Program} {f : Nat} {args : List AV} {H : Heap} {s : Nat} {R R' : AV → Heap → Prop} (h : CallV P f args H s R) (hr : ∀ v H', R v H' → R' v H') : CallV P f args H s R' :=
  ⟨h.1, fun x vals M h1 h2 h3 h4 h5 h6 => Calls.mono (h.2 x vals M h1 h2 h3 h4 h5 h6) fun _ _ ⟨v, y, av, a1, a2, a3, a4, a5, a6, a7⟩ => ⟨v, y, av, a1, a2, a3, a4, a5, a6, hr _ _ a7⟩⟩
theorem free_put {H : Heap} {s' j : Nat} {o o' : Ob} (ho : H.ob s' j = some o) {t : Nat} (h : H t = []) : (H.put s' j o') t = [] := by
  have : t ≠ s' := fun e => by subst e; simp [Heap.ob, h] at ho
  simp [Heap.put, Heap.upd, this, h]
theorem opE_free {P : Program} {s : Nat} {ρ : Operand → AV} {H : Heap} {op : Op} {v : AV} {H' : Heap} (h : opE P s ρ H op = some (v, H')) {t : Nat} (ht : t ≠ s) (hf : H t = []) : H' t = [] := by
  have key : H' = H ∨ (∃ l, H' = H.upd s l) ∨ ∃ s' j o o', H.ob s' j = some o ∧ H' = H.put s' j o' := by
    cases op with
    | call c =>
      simp only [opE] at h
      split at h
      · unfold builtinA at h
        split at h
        · repeat' split at h
          all_goals first | (cases h; done) | (simp only [Option.some.injEq, Prod.mk.injEq] at h; exact .inl h.2.symm)
        · simp only [Option.some.injEq, Prod.mk.injEq] at h; exact .inl h.2.symm
        · simp only [Option.some.injEq, Prod.mk.injEq] at h; exact .inl h.2.symm
        · repeat' split at h
          all_goals try (cases h; done)
          unfold addA at h
          repeat' split at h
          all_goals try (cases h; done)
          · simp only [Option.some.injEq, Prod.mk.injEq] at h; exact .inl h.2.symm
          · simp only [Option.some.injEq, Prod.mk.injEq] at h; exact .inr (.inl ⟨_, h.2.symm⟩)
          · simp only [Option.some.injEq, Prod.mk.injEq] at h; exact .inr (.inr ⟨_, _, _, _, ‹_›, h.2.symm⟩)
        · repeat' split at h
          all_goals try (cases h; done)
          simp only [Option.some.injEq, Prod.mk.injEq] at h; exact .inr (.inr ⟨_, _, _, _, ‹_›, h.2.symm⟩)
        · cases h
      · cases h
    | makeFunc fn first caps =>
      cases fn <;> simp only [opE] at h
      all_goals try (cases h; done)
      split at h
      · simp only [Option.some.injEq, Prod.mk.injEq] at h; exact .inl h.2.symm
      · cases h
    | makeMap t r =>
      cases r with
      | none => simp only [opE, Option.some.injEq, Prod.mk.injEq] at h; exact .inr (.inl ⟨_, h.2.symm⟩)
      | some q => simp only [opE] at h; cases h
    | convert src dst q =>
      simp only [opE] at h
      split at h
      · simp only [Option.some.injEq, Prod.mk.injEq] at h; exact .inl h.2.symm
      · exact .inl (strA_heap h)
      · cases h
    | lookup t m k ok => simp only [opE] at h; exact .inl (getM_spec h).1
    | mapUpdate t m k a =>
      simp only [opE] at h
      obtain ⟨s', j, o, kd, n, _, _, ho, _, _, hr⟩ := putM_spec h
      exact .inr (.inr ⟨_, _, _, _, ho, congrArg Prod.snd hr⟩)
    | insert t m k a =>
      simp only [opE] at h
      obtain ⟨s', j, o, kd, n, _, _, ho, _, _, hr⟩ := putM_spec h
      exact .inr (.inr ⟨_, _, _, _, ho, congrArg Prod.snd hr⟩)
    | _ =>
      simp only [opE] at h
      repeat' split at h
      all_goals first
        | (cases h; done)
        | (simp only [Option.some.injEq, Prod.mk.injEq] at h; exact .inl h.2.symm)
        | (simp only [Option.some.injEq, Prod.mk.injEq] at h; exact .inr (.inl ⟨_, h.2.symm⟩))
        | (simp only [Option.some.injEq, Prod.mk.injEq] at h; exact .inr (.inr ⟨_, _, _, _, ‹_›, h.2.symm⟩))
        | (simp only [Option.map_eq_some_iff, Prod.mk.injEq] at h; obtain ⟨_, _, _, h⟩ := h; exact .inl h.symm)
  rcases key with rfl | ⟨l, rfl⟩ | ⟨s', j, o, o', ho, rfl⟩
  · exact hf
  · simp [Heap.upd, ht, hf]
  · exact free_put ho hf
theorem stepV_sound {P : Program} {x : Cx} (hR : Rel x) {s : Nat} (hs : x.H s = []) {M : Nat} (hM : s < M) (hf : ∀ t, M ≤ t → x.H t = []) {E : Env} {a : Act} (hE : EnvR x E a) {o : Oper} {K : AV → Heap → Prop} (h : stepV P s E x.H o K)
    (hd : ∀ t, o.dst = some t → t < a.tmps.size) {Q : Exit → Act → World → Prop} {next : Act → World → Prop}
    (hn : ∀ y v u, Rel y → Ext x y → EnvR y (E.put o.dst v) (a.put o.dst u) → (∀ t, t ≠ s → x.H t = [] → y.H t = []) → K v y.H → next (a.put o.dst u) y.w) : o.wp P a x.w next Q := by
  unfold stepV at h
  split at h
  · rename_i f as ts he
    split at h
    · rename_i fn caps hfn
      obtain ⟨hent, hc⟩ := h
      have hv := hE.ev f
      rw [hfn] at hv
      generalize hfv : a.eval f = fv at hv
      cases hv with
      | fn _ _ us hus =>
        have hargs : VRL x (as.toList.map E.ev ++ caps) (as.toList.map a.eval ++ us) := (ev_args as.toList (fun q _ => hE.ev q)).append hus
        have e : (execOp a.eval o).run P x.w = .ok (.enter fn (as.toList.map a.eval ++ us).toArray) x.w := by
          simp only [execOp, he, resolve, Deferred.ofValue, hfv, run_bind, run_pure, invoke]
          rw [hent]
          congr 2
          apply Array.ext'
          simp
        unfold Oper.wp
        rw [e]
        refine Calls.mono (hc x _ M hR rfl hs hM hf hargs) ?_
        rintro _ _ ⟨v, y, av, rfl, rfl, h1, h2, h3, h4, h5⟩
        exact hn y av v h1 h2 ((hE.mono h2).put h3 hd) h4 h5
    · exact h.elim
  · rename_i op hne
    obtain ⟨⟨v, H'⟩, h1, h2⟩ := h
    obtain ⟨n, u, y, hrun, hu, rfl, hy, hx, hv⟩ := opE_sound (σ := a.eval) hR hs o (fun q _ => hE.ev q) h1
    have := hn y v u hy hx ((hE.mono hx).put hv hd) (fun t ht => opE_free h1 ht) h2
    unfold Oper.wp
    rw [hrun]
    rcases hu with rfl | ⟨rfl, rfl⟩
    · exact this
    · exact this
end Go.Proofs.YtffiddkignmobaaDoorVe
end
section
/- VE, part N: regions in the listed order; code; functions. -/
namespace Go.Proofs.YtffiddkignmobaaDoorVe
section
variable (P : Program)
def seqL (ops : Array Oper) (L : Nat) : Nat → List Oper → Env → Heap → (Env → Heap → Prop) → Prop
  | _, [], E, H, K => K E H
  | i, o :: rest, E, H, K => match guardA ops E o with
    | some true => stepV P (L + i) E H o fun v H' => seqL ops L (i + 1) rest (E.put o.dst v) H' K
    | some false => seqL ops L (i + 1) rest (E.put o.dst (.tup [])) H K
    | none => False
end
/-- What a state of the machine shows of an abstract one. -/
structure St (N : Nat) (x : Cx) (L : Nat) (E : Env) (a : Act) : Prop where
  rel : Rel x
  env : EnvR x E a
  free : ∀ t, L ≤ t → x.H t = []
  size : a.tmps.size = N
  defers : a.defers = []
theorem put_size (a : Act) (d : Option Nat) (v : Value) : (a.put d v).tmps.size = a.tmps.size := by cases d <;> simp [Act.put]
theorem put_defs (a : Act) (d : Option Nat) (v : Value) : (a.put d v).defers = a.defers := by cases d <;> rfl
theorem seqL_sound {P : Program} {ops : Array Oper} {L N : Nat} {Q : Exit → Act → World → Prop} : ∀ (l : List Oper) (i : Nat) (_ : ops.toList.drop i = l) (_ : i + l.length = ops.size) (_ : ∀ o ∈ l, ∀ t, o.dst = some t → t < N)
    {x : Cx} {E : Env} {a : Act} (_ : St N x (L + i) E a) {K : Env → Heap → Prop} (_ : seqL P ops L i l E x.H K)
    (_ : ∀ y E' a', Ext x y → St N y (L + ops.size) E' a' → K E' y.H → Q .normal a' y.w), wpOps P ops Q (List.range' i l.length) a x.w
  | [], i, hl, hn, hb, x, E, a, hS, K, h, hq => by
    simp only [List.length_nil, List.range'_zero, wpOps]
    simp only [List.length_nil, Nat.add_zero] at hn
    exact hq x E a (Ext.refl x) (by rw [← hn]; exact hS) h
  | o :: rest, i, hl, hn, hb, x, E, a, hS, K, h, hq => by
    have ho : ops[i]? = some o := by
      have := congrArg (fun l => l[0]?) hl
      simpa using this
    have hr : ops.toList.drop (i + 1) = rest := by
      have := congrArg (fun l => l.drop 1) hl
      simpa [List.drop_drop, Nat.add_comm] using this
    simp only [List.length_cons, List.range'_succ, wpOps, ho]
    simp only [seqL] at h
    have hd : ∀ t, o.dst = some t → t < a.tmps.size := fun t ht => by rw [hS.size]; exact hb o (by simp) t ht
    split at h
    · rename_i hg
      rw [if_pos (guard_sound hS.env hg)]
      refine .inl (stepV_sound hS.rel (hS.free _ (Nat.le_refl _)) (Nat.lt_succ_self _) (fun t ht => hS.free t (by omega)) hS.env h hd fun y v u h1 h2 h3 h4 h5 => ?_)
      refine seqL_sound rest (i + 1) hr (by simp at hn; omega) (fun o' ho' => hb o' (by simp [ho'])) ⟨h1, h3, ?_, ?_, ?_⟩ h5 (fun z E' a' k1 k2 k3 => hq z E' a' (h2.trans k1) k2 k3)
      · intro t ht; exact h4 t (by omega) (hS.free t (by omega))
      · rw [put_size]; exact hS.size
      · rw [put_defs]; exact hS.defers
    · rename_i hg
      rw [if_neg (by rw [guard_sound hS.env hg]; simp)]
      refine seqL_sound rest (i + 1) hr (by simp at hn; omega) (fun o' ho' => hb o' (by simp [ho'])) ⟨hS.rel, hS.env.put (.tup [] [] .nil) hd, ?_, ?_, ?_⟩ h hq
      · intro t ht; exact hS.free t (by omega)
      · rw [put_size]; exact hS.size
      · rw [put_defs]; exact hS.defers
    · exact h.elim
end Go.Proofs.YtffiddkignmobaaDoorVe
end
