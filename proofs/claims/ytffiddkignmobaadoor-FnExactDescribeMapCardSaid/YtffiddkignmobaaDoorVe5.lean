/- A logic of abstract values and heaps over the model's steps, proved sound: for every program that follows mixed orders. -/
import Derived.Test.YtffiddkignmobaaDoorVe4
set_option linter.unusedVariables false
set_option linter.unusedSimpArgs false
section
/- VE, part P: a drawn region does what its listed order does. -/
namespace Go.Proofs.YtffiddkignmobaaDoorVe
def okPair (ops : Array Oper) (A : Nat → Nat) (j i : Nat) : Bool :=
  (A i).testBit j || match ops[j]?, ops[i]? with
    | some x, some y => x.apart ops y && ((quiet x.op && quiet y.op && !(isCall x.op && isCall y.op)) || ((pureOp x.op || isLoad x.op) && (isApp y.op || isStore y.op)) || (isApp x.op && (pureOp y.op || isSlc y.op)))
    | _, _ => true
def okOne (ops : Array Oper) (A : Nat → Nat) (i : Nat) (o : Oper) : Bool :=
  (o.after.all fun e => !Region.binds .any e || decide (e.on < i)) &&
  (List.range ops.size).all fun j => (!(A i).testBit j || (decide (j < i) && o.after.any fun e => Region.binds .any e && (decide (e.on = j) || (A e.on).testBit j))) &&
    (!decide (j < i) || okPair ops A j i)
def okAll (ops : Array Oper) (A : Nat → Nat) : Bool := (List.range ops.size).all fun i => match ops[i]? with
  | some o => okOne ops A i o && decide (A i < 2 ^ ops.size)
  | none => true
structure OkD (ops : Array Oper) (A : Nat → Nat) : Prop where
  lt : ∀ i o, ops[i]? = some o → ∀ e ∈ o.after, Region.binds .any e = true → e.on < i
  anc : ∀ i o j, ops[i]? = some o → (A i).testBit j = true → j < i ∧ ∃ e ∈ o.after, Region.binds .any e = true ∧ (e.on = j ∨ (A e.on).testBit j = true)
  pair : ∀ i j x y, j < i → ops[j]? = some x → ops[i]? = some y → (A i).testBit j = false → x.apart ops y = true ∧ ((quiet x.op = true ∧ quiet y.op = true ∧ (isCall x.op && isCall y.op) = false) ∨ ((pureOp x.op = true ∨ isLoad x.op = true) ∧ (isApp y.op = true ∨ isStore y.op = true)) ∨ (isApp x.op = true ∧ (pureOp y.op = true ∨ isSlc y.op = true)))
theorem okAll_spec {ops : Array Oper} {A : Nat → Nat} (h : okAll ops A = true) : OkD ops A := by
  have h1 : ∀ i o, ops[i]? = some o → okOne ops A i o = true ∧ A i < 2 ^ ops.size := fun i o ho => by
    have hi : i < ops.size := (Array.getElem?_eq_some_iff.1 ho).1
    have := List.all_eq_true.1 h i (List.mem_range.2 hi)
    simpa [ho] using this
  have hb : ∀ i o j, ops[i]? = some o → (A i).testBit j = true → j < ops.size := fun i o j ho hj => by
    rcases Nat.lt_or_ge j ops.size with h2 | h2
    · exact h2
    · have := Nat.testBit_lt_two_pow (Nat.lt_of_lt_of_le (h1 i o ho).2 (Nat.pow_le_pow_right (by omega) h2))
      rw [this] at hj; cases hj
  refine ⟨fun i o ho e he hb => ?_, fun i o j ho hj => ?_, fun i j x y hij hx hy hA => ?_⟩
  · have := (h1 i o ho).1
    simp only [okOne, Bool.and_eq_true, Array.all_eq_true_iff_forall_mem] at this
    have := this.1 e he
    simpa [hb] using this
  · have h2 := (h1 i o ho).1
    simp only [okOne, Bool.and_eq_true, List.all_eq_true] at h2
    have h3 := (h2.2 j (List.mem_range.2 (hb i o j ho hj))).1
    simp only [hj, Bool.not_true, Bool.false_or, Bool.and_eq_true, decide_eq_true_eq, ← Array.any_toList, List.any_eq_true] at h3
    obtain ⟨h4, e, he, h5, h6⟩ := h3
    exact ⟨h4, e, by simpa using he, h5, by simpa using h6⟩
  · have h2 := (h1 i y hy).1
    simp only [okOne, Bool.and_eq_true, List.all_eq_true] at h2
    have h3 := (h2.2 j (List.mem_range.2 (Array.getElem?_eq_some_iff.1 hx).1)).2
    simp only [hij, decide_true, Bool.not_true, Bool.false_or, okPair, hA, hx, hy, Bool.and_eq_true, Bool.or_eq_true, Bool.not_eq_true'] at h3
    refine ⟨h3.1, ?_⟩
    rcases h3.2 with (h | h) | h
    · exact .inl ⟨h.1.1, h.1.2, h.2⟩
    · exact .inr (.inl h)
    · exact .inr (.inr h)
theorem QR_ex {P : Program} {zb : Bool × Bool} {L i m : Nat} {E : Env} {H : Heap} {o : Oper} (hc : isCall o.op = false) {K : AV → List Ob → Prop} : QR P zb L i m E H o K ↔ ∃ v l, QR P zb L i m E H o (fun v' l' => v' = v ∧ l' = l) ∧ K v l := by
  constructor
  · unfold QR
    split
    · rename_i e; rw [e] at hc; cases hc
    · rintro ⟨r, h1, h0, h2⟩
      exact ⟨_, _, ⟨r, h1, h0, rfl, rfl⟩, h2⟩
  · rintro ⟨v, l, h1, h2⟩
    exact QR_mono (fun v' l' h => by rw [h.1, h.2]; exact h2) h1
theorem QR_det {P : Program} {zb : Bool × Bool} {L i m : Nat} {E : Env} {H : Heap} {o : Oper} (hc : isCall o.op = false) {K : AV → List Ob → Prop} {v : AV} {l : List Ob} : QR P zb L i m E H o (fun v' l' => v' = v ∧ l' = l) → QR P zb L i m E H o K → K v l := by
  unfold QR
  split
  · rename_i e; rw [e] at hc; cases hc
  · rintro ⟨r, h1, _, rfl, rfl⟩ ⟨r2, h3, _, h4⟩
    rw [h1] at h3
    injection h3 with h3
    subst h3; exact h4
theorem QR_ne {P : Program} {zb : Bool × Bool} {L i m : Nat} {E : Env} {H : Heap} {o : Oper} {K : AV → List Ob → Prop} : QR P zb L i m E H o K → ∃ v l, K v l := by
  unfold QR
  split
  · split
    · exact fun ⟨R, ⟨v, l, h⟩, _, h3⟩ => ⟨v, l, h3 v l h⟩
    · exact fun h => h.elim
  · exact fun ⟨r, _, _, h⟩ => ⟨_, _, h⟩
theorem QR_comm {P : Program} {zx zy : Bool × Bool} {L i j m n : Nat} {E E' : Env} {H H' : Heap} {x y : Oper} (hc : (isCall x.op && isCall y.op) = false) {K : AV → List Ob → AV → List Ob → Prop} (h : QR P zx L j n E H x fun v l => QR P zy L i m E' H' y fun v' l' => K v l v' l') : QR P zy L i m E' H' y fun v' l' => QR P zx L j n E H x fun v l => K v l v' l' := by
  cases hx : isCall x.op with
  | false =>
    obtain ⟨v, l, h1, h2⟩ := (QR_ex hx).1 h
    exact QR_mono (fun v' l' hk => (QR_ex hx).2 ⟨v, l, h1, hk⟩) h2
  | true =>
    have hy : isCall y.op = false := by simpa [hx] using hc
    obtain ⟨v0, l0, h0⟩ := QR_ne h
    obtain ⟨v', l', h1, _⟩ := (QR_ex hy).1 h0
    exact (QR_ex hy).2 ⟨v', l', h1, QR_mono (fun v l hk => QR_det hy h1 hk) h⟩
theorem swap {P : Program} {ops : Array Oper} {A : Nat → Nat} {L i j : Nat} {x y : Oper} (hij : j < i) (hx : ops[j]? = some x) (hy : ops[i]? = some y) (qx : quiet x.op = true) (qy : quiet y.op = true) (hap : x.apart ops y = true) (hcl : (isCall x.op && isCall y.op) = false) (h1 : (A i).testBit j = false) (h2 : (A j).testBit i = false)
    {E : Env} {H : Heap} {K : Env → Heap → Prop} (h : stepD P ops A L j E H fun E H => stepD P ops A L i E H K) : stepD P ops A L i E H fun E H => stepD P ops A L j E H K := by
  obtain ⟨a1, a2, a3⟩ := Oper.apart_spec hap
  have hne : L + j ≠ L + i := by omega
  have hv1 : ∀ (l : List Ob) (H : Heap) t, t ≠ L + i → vis L (A i) t = true → (H.add (L + j) l) t = H t := fun l H t ht hv => add_other (fun c => by
    subst c; simp [vis, h1] at hv; omega) l
  have hv2 : ∀ (l : List Ob) (H : Heap) t, t ≠ L + j → vis L (A j) t = true → (H.add (L + i) l) t = H t := fun l H t ht hv => add_other (fun c => by
    subst c; simp [vis, h2] at hv; omega) l
  have hv0 : ∀ (m : Nat) (H : Heap) t, t ≠ m → vis L (A i) t = true → H t = H t := fun _ _ _ _ _ => rfl
  have sx : soloB A ops.size j = false := by
    have hi : i < ops.size := (Array.getElem?_eq_some_iff.1 hy).1
    refine Bool.eq_false_iff.2 fun c => ?_
    have := List.all_eq_true.1 c i (List.mem_range.2 hi)
    simp [h1, h2] at this; omega
  have sy : soloB A ops.size i = false := by
    have hj : j < ops.size := (Array.getElem?_eq_some_iff.1 hx).1
    refine Bool.eq_false_iff.2 fun c => ?_
    have := List.all_eq_true.1 c j (List.mem_range.2 hj)
    simp [h1, h2] at this; omega
  simp only [stepD, hx, hy, qx, qy, sx, sy, Bool.not_false, Bool.and_self, if_true] at h ⊢
  have hp : ∀ u v, (E.put x.dst u).put y.dst v = (E.put y.dst v).put x.dst u := fun u v => put_comm (fun t ht => a2 t ht) u v
  cases g1 : guardA ops E x with
  | none => simp [g1] at h
  | some b1 =>
    cases b1 with
    | false =>
      simp only [g1] at h
      rw [guard_put a1] at h
      cases g2 : guardA ops E y with
      | none => simp [g2] at h
      | some b2 =>
        cases b2 with
        | false =>
          simp only [g2] at h
          rw [guard_put a3]
          simp only [g1]
          rw [← hp]; exact h
        | true =>
          simp only [g2] at h
          rw [QR_local a1 (fun _ _ _ => rfl)] at h
          refine QR_mono (fun v l hk => ?_) h
          rw [guard_put a3]
          simp only [g1]
          rw [← hp]; exact hk
    | true =>
      simp only [g1] at h
      cases g2 : guardA ops E y with
      | none =>
        exfalso
        simp only [guard_put a1, g2] at h
        obtain ⟨_, _, h⟩ := QR_ne h
        exact h
      | some b2 =>
        cases b2 with
        | false =>
          rw [guard_put a3]
          simp only [g1]
          rw [QR_local a3 (fun _ _ _ => rfl)]
          refine QR_mono (fun v l hk => ?_) h
          rw [guard_put a1] at hk
          simp only [g2] at hk
          rw [← hp]; exact hk
        | true =>
          have h3 : QR P (late ops A j, lateS ops A j) L j (A j) E H x fun v l => QR P (late ops A i, lateS ops A i) L i (A i) E H y fun v' l' => K ((E.put y.dst v').put x.dst v) ((H.add (L + i) l').add (L + j) l) := by
            refine QR_mono (fun v l hk => ?_) h
            rw [guard_put a1] at hk
            simp only [g2] at hk
            rw [QR_local a1 (hv1 l H)] at hk
            refine QR_mono (fun v' l' hk => ?_) hk
            rw [← hp, ← add_comm' hne]; exact hk
          have h4 := QR_comm hcl h3
          refine QR_mono (fun v' l' hk => ?_) h4
          rw [guard_put a3]
          simp only [g1]
          rw [QR_local a3 (hv2 l' H)]
          exact hk
theorem app_keeps {P : Program} {s : Nat} {ρ : Operand → AV} {H H' : Heap} {op : Op} (ha : isApp op = true) {v : AV} (h : opE P s ρ H op = some (v, H')) {t j : Nat} {ob : Ob} (ht : t ≠ s) (ho : H.ob t j = some ob) (hz : ob.z = 0) : H'.ob t j = some ob := by
  have fin : ∀ {z n m : Nat} {a : AV} {xs : List AV}, z ≠ 0 → addA z n H s a m xs = some (v, H') → H'.ob t j = some ob := fun {z n m a xs} hne h => by
    unfold addA at h
    split at h
    · split at h
      · simp only [Option.some.injEq, Prod.mk.injEq] at h
        rw [← h.2]; exact ho
      · simp only [Option.some.injEq, Prod.mk.injEq] at h
        rw [← h.2]
        simpa [Heap.ob, Heap.upd, ht] using ho
    · split at h
      · rename_i s' j' g off k _ o e
        split at h
        · rename_i hc
          simp only [Option.some.injEq, Prod.mk.injEq] at h
          rw [← h.2]
          have hd : ¬ (t = s' ∧ j = j') := fun c => by
            obtain ⟨rfl, rfl⟩ := c
            rw [e] at ho
            injection ho with ho
            subst ho
            exact hne (hc.2.1 ▸ hz)
          simp only [Heap.ob, Heap.put, Heap.upd] at ho ⊢
          by_cases c : t = s'
          · subst c
            rw [if_pos rfl, List.getElem?_set_ne (fun c => hd ⟨rfl, c.symm⟩)]
            exact ho
          · rw [if_neg c]; exact ho
        · cases h
      · cases h
    · cases h
  cases op with
  | call c =>
    obtain ⟨f, as, ts⟩ := c
    cases f with
    | builtin b =>
      cases b <;> simp only [isApp, Bool.false_eq_true] at ha
      simp only [opE, builtinA] at h
      split at h
      all_goals try contradiction
      all_goals (repeat' split at h)
      all_goals try (cases h; done)
      all_goals try contradiction
      all_goals exact fin (fun c => by simp_all) h
    | _ => simp [isApp] at ha
  | _ => simp [isApp] at ha
theorem store_keeps {P : Program} {s : Nat} {E : Env} {H H' : Heap} {op : Op} {c : Bool} (hs : isStore op = true) (hz : zSt true c E H op) {v : AV} (h : opE P s E.ev H op = some (v, H')) {t j : Nat} {ob : Ob} (ho : H.ob t j = some ob) (hne : ¬ zCls c ob.z) : H'.ob t j = some ob := by
  cases op with
  | store ty a x =>
    have hz := hz rfl
    split at hz
    · rename_i s' j' g off e
      obtain ⟨ob', h1, h2⟩ := hz
      simp only [opE, e, h1] at h
      split at h
      · rename_i T s2 j2 g2 off2 _ e2
        injection e2 with e2a e2b
        subst e2a; subst e2b
        simp only [h1] at h
        split at h
        · simp only [Option.some.injEq, Prod.mk.injEq] at h
          rw [← h.2]
          have hd : ¬ (t = s' ∧ j = j') := fun c => by
            obtain ⟨rfl, rfl⟩ := c
            rw [h1] at ho
            injection ho with ho
            subst ho
            exact hne h2
          simp only [Heap.ob, Heap.put, Heap.upd] at ho ⊢
          by_cases c : t = s'
          · subst c
            rw [if_pos rfl, List.getElem?_set_ne (fun c => hd ⟨rfl, c.symm⟩)]
            exact ho
          · rw [if_neg c]; exact ho
        · cases h
      · cases h
    · exact hz.elim
  | _ => simp [isStore] at hs
/-- A load that finds the same object. -/
def Same (E : Env) (H H' : Heap) : Op → Prop
  | .load _ q => match E.ev q with
    | .ptr s j _ _ => ∃ ob, H.ob s j = some ob ∧ H'.ob s j = some ob
    | _ => False
  | _ => True
theorem load_keeps {P : Program} {s : Nat} {E : Env} {H H' : Heap} {op : Op} (hl : isLoad op = true) (hz : Same E H H' op) {r : AV × Heap} (h : opE P s E.ev H op = some r) : opE P s E.ev H' op = some (r.1, H') := by
  cases op with
  | load t q =>
    simp only [Same] at hz
    split at hz
    · rename_i s' j g off e
      obtain ⟨ob, h1, h3⟩ := hz
      simp only [opE, e, loadA, h1] at h
      simp only [opE, e, loadA, h3]
      split at h
      · split at h
        · rename_i hc
          split at hc
          · rename_i hc2
            try simp only [hc]
            split at h
            · rename_i hag
              simp only [Option.some.injEq] at h; subst h
              simp [hag]
            · rename_i hag
              simp only [hag]
              split at h
              · simp only [Option.some.injEq] at h; subst h; simp
              · cases h
          · cases hc
        · cases h
      · cases h
    · exact hz.elim
  | _ => simp [isLoad] at hl
theorem load_heap {P : Program} {s : Nat} {ρ : Operand → AV} {H : Heap} {op : Op} (hl : isLoad op = true) {r : AV × Heap} (h : opE P s ρ H op = some r) : r.2 = H := by
  cases op with
  | load t q =>
    simp only [opE] at h
    repeat' split at h
    all_goals first | (cases h; done) | (simp only [Option.some.injEq] at h; subst h; rfl)
  | _ => simp [isLoad] at hl
theorem swapA {P : Program} {ops : Array Oper} {A : Nat → Nat} {L i j : Nat} {x y : Oper} (hij : j < i) (hx : ops[j]? = some x) (hy : ops[i]? = some y) (qx : pureOp x.op = true ∨ isLoad x.op = true) (qy : isApp y.op = true ∨ isStore y.op = true) (hap : x.apart ops y = true) (h1 : (A i).testBit j = false) (h2 : (A j).testBit i = false)
    {E : Env} {H : Heap} {K : Env → Heap → Prop} (h : stepD P ops A L j E H fun E H => stepD P ops A L i E H K) : stepD P ops A L i E H fun E H => stepD P ops A L j E H K := by
  obtain ⟨a1, a2, a3⟩ := Oper.apart_spec hap
  have qy2 : quiet y.op = false := by
    rcases qy with h | h
    · revert h; unfold isApp; split <;> simp_all [quiet]
    · revert h; unfold isStore; split <;> simp_all [quiet]
  have qx2 : quiet x.op = true := by
    rcases qx with h | h
    · revert h; unfold pureOp; split <;> simp_all [quiet]
    · revert h; unfold isLoad; split <;> simp_all [quiet]
  have cx : isCall x.op = false := by
    rcases qx with h | h
    · revert h; unfold pureOp; split <;> simp_all [isCall]
    · revert h; unfold isLoad; split <;> simp_all [isCall]
  have sx : soloB A ops.size j = false := by
    have hi : i < ops.size := (Array.getElem?_eq_some_iff.1 hy).1
    refine Bool.eq_false_iff.2 fun c => ?_
    have := List.all_eq_true.1 c i (List.mem_range.2 hi)
    simp [h1, h2] at this; omega
  have hlate : (late ops A j = true ∧ (isApp y.op = true ∨ (isStore y.op = true ∧ stB ops y.op = true))) ∨ (lateS ops A j = true ∧ isStore y.op = true ∧ stB ops y.op = false) := by
    have hi : i < ops.size := (Array.getElem?_eq_some_iff.1 hy).1
    rcases qy with qa | qs
    · refine .inl ⟨?_, .inl qa⟩
      unfold late
      rw [List.any_eq_true]
      exact ⟨i, List.mem_range.2 hi, by simp [hij, h1, hy, qa]⟩
    · cases hb : stB ops y.op with
      | true =>
        refine .inl ⟨?_, .inr ⟨qs, rfl⟩⟩
        unfold late
        rw [List.any_eq_true]
        exact ⟨i, List.mem_range.2 hi, by simp [hij, h1, hy, hb]⟩
      | false =>
        refine .inr ⟨?_, qs, rfl⟩
        unfold lateS
        rw [List.any_eq_true]
        exact ⟨i, List.mem_range.2 hi, by simp [hij, h1, hy, qs, hb]⟩
  have hearly : earlyB A i = true := by
    unfold earlyB
    rw [List.any_eq_true]
    exact ⟨j, List.mem_range.2 hij, by simp [h1]⟩
  simp only [stepD, hx, hy, qx2, qy2, sx, Bool.not_false, Bool.and_self, Bool.false_and, Bool.false_eq_true, if_true, if_false] at h ⊢
  have hp : ∀ u v, (E.put x.dst u).put y.dst v = (E.put y.dst v).put x.dst u := fun u v => put_comm (fun t ht => a2 t ht) u v
  -- x is no call: what it gives
  have qr : ∀ {m : Nat} {E : Env} {H : Heap} {K : AV → List Ob → Prop}, QR P (late ops A j, lateS ops A j) L j m E H x K ↔ ∃ r, opE P (L + j) E.ev (hide L m j H) x.op = some r ∧ zCond (late ops A j, lateS ops A j) E (hide L m j H) x.op ∧ K r.1 (r.2 (L + j)) := fun {m E H K} => by
    unfold QR
    split
    · rename_i e; rw [e] at cx; cases cx
    · rfl
  have sv : ∀ {E : Env} {H : Heap} {K : AV → Heap → Prop}, stepV P (L + i) E H y K ↔ ∃ r, opE P (L + i) E.ev H y.op = some r ∧ K r.1 r.2 := fun {E H K} => by
    unfold stepV
    split
    · rename_i e; rw [e] at qy; rcases qy with h | h <;> cases h
    · rfl
  have cy : ∀ v H, opE P (L + i) (E.put x.dst v).ev H y.op = opE P (L + i) E.ev H y.op := fun v H => opE_congr y.op fun q hq => ev_put fun t ht c => a1 t ht (mem_looks (by rw [c] at hq; exact hq))
  have cxE : ∀ v H, opE P (L + j) (E.put y.dst v).ev H x.op = opE P (L + j) E.ev H x.op := fun v H => opE_congr x.op fun q hq => ev_put fun t ht c => a3 t ht (mem_looks (by rw [c] at hq; exact hq))
  have cz : ∀ v H b, zCond b (E.put y.dst v) H x.op = zCond b E H x.op := fun v H b => by
    have h1 : zOf (E.put y.dst v) H x.op = zOf E H x.op := by
      unfold zOf
      split
      · rename_i t q e
        rw [ev_put fun t ht c => a3 t ht (mem_looks (by rw [c] at e; simp [e, Op.operands]))]
      · rfl
    have h2 : zNo (E.put y.dst v) H x.op = zNo E H x.op := by
      unfold zNo
      split
      · rename_i t q e
        rw [ev_put fun t ht c => a3 t ht (mem_looks (by rw [c] at e; simp [e, Op.operands]))]
      · rfl
    unfold zCond
    rw [h1, h2]
  have czs : ∀ v H b c, zSt b c (E.put x.dst v) H y.op = zSt b c E H y.op := fun v H b c => by
    unfold zSt
    split
    · rename_i t a w e
      rw [ev_put fun t ht c => a1 t ht (mem_looks (by rw [c] at e; simp [e, Op.operands]))]
    · rfl
  cases g1 : guardA ops E x with
  | none => simp [g1] at h
  | some b1 =>
    cases b1 with
    | false =>
      simp only [g1] at h
      rw [guard_put a1] at h
      cases g2 : guardA ops E y with
      | none => simp [g2] at h
      | some b2 =>
        cases b2 with
        | false =>
          simp only [g2] at h
          rw [guard_put a3]
          simp only [g1]
          rw [← hp]; exact h
        | true =>
          simp only [g2] at h
          rw [sv] at h ⊢
          obtain ⟨hz, r, k1, k2⟩ := h
          rw [cy] at k1
          rw [czs] at hz
          refine ⟨hz, r, k1, ?_⟩
          rw [guard_put a3]
          simp only [g1]
          rw [← hp]; exact k2
    | true =>
      simp only [g1] at h
      rw [qr] at h
      obtain ⟨r, k1, k2, h⟩ := h
      have hhide : ∀ H : Heap, hide L (A j) j H (L + j) = [] := fun H => by simp [hide]
      have hobs : r.2 (L + j) = [] := by
        have e : r.2 = hide L (A j) j H := by
          rcases qx with q | q
          · exact (pure_op q k1).1
          · exact load_heap q k1
        rw [e]; exact hhide H
      rw [hobs] at h
      simp only [Heap.add] at h
      rw [guard_put a1] at h
      cases g2 : guardA ops E y with
      | none => simp [g2] at h
      | some b2 =>
        cases b2 with
        | false =>
          simp only [g2] at h
          rw [guard_put a3]
          simp only [g1]
          rw [qr]
          refine ⟨r, by rw [cxE]; exact k1, by rw [cz]; exact k2, ?_⟩
          rw [hobs]
          simp only [Heap.add]
          rw [← hp]; exact h
        | true =>
          simp only [g2] at h
          rw [sv] at h ⊢
          obtain ⟨hz, r', k3, k4⟩ := h
          rw [cy] at k3
          rw [czs] at hz
          refine ⟨hz, r', k3, ?_⟩
          rw [guard_put a3]
          simp only [g1]
          rw [qr]
          have hkeep : ∀ t jj ob, (hide L (A j) j H).ob t jj = some ob → ((isApp y.op = true ∧ ob.z = 0) ∨ (isStore y.op = true ∧ ¬ zCls (stB ops y.op) ob.z)) → (hide L (A j) j r'.2).ob t jj = some ob := fun t jj ob ho hzz => by
            simp only [Heap.ob, hide] at ho ⊢
            split at ho
            · simp at ho
            · rename_i t1
              rw [if_neg t1]
              split at ho
              · rename_i hv
                rw [if_pos hv]
                rcases hzz with ⟨qa, hz0⟩ | ⟨qs, hz0⟩
                · refine app_keeps qa k3 (fun c => ?_) ho hz0
                  subst c
                  simp [vis, h2] at hv
                  omega
                · exact store_keeps (E := E) qs (by rw [hearly] at hz; exact hz) k3 ho hz0
              · simp at ho
          have hnew : opE P (L + j) E.ev (hide L (A j) j r'.2) x.op = some (r.1, hide L (A j) j r'.2) ∧ zCond (late ops A j, lateS ops A j) E (hide L (A j) j r'.2) x.op := by
            rcases qx with q | q
            · refine ⟨(pure_op q k1).2 _, fun hl => ?_, fun hl => ?_⟩
              · unfold zOf
                split
                · rename_i e; rw [e] at q; cases q
                · trivial
              · unfold zNo
                split
                · rename_i e; rw [e] at q; cases q
                · trivial
            · have hsame : Same E (hide L (A j) j H) (hide L (A j) j r'.2) x.op := by
                unfold Same
                split
                · rename_i t qq e
                  rcases hlate with ⟨hl, hc⟩ | ⟨hl, qs, hb⟩
                  · have := k2.1 hl
                    rw [e] at this
                    simp only [zOf] at this
                    split at this
                    · obtain ⟨ob, o1, o2⟩ := this
                      rename_i e2
                      simp only [e2]
                      rcases hc with qa | ⟨qs, hb⟩
                      · exact ⟨ob, o1, hkeep _ _ _ o1 (.inl ⟨qa, o2⟩)⟩
                      · exact ⟨ob, o1, hkeep _ _ _ o1 (.inr ⟨qs, by rw [hb]; exact fun c => c o2⟩)⟩
                    · exact this.elim
                  · have := k2.2 hl
                    rw [e] at this
                    simp only [zNo] at this
                    split at this
                    · obtain ⟨ob, o1, o2⟩ := this
                      rename_i e2
                      simp only [e2]
                      exact ⟨ob, o1, hkeep _ _ _ o1 (.inr ⟨qs, by rw [hb]; exact o2⟩)⟩
                    · exact this.elim
                · trivial
              refine ⟨load_keeps q hsame k1, fun hl => ?_, fun hl => ?_⟩
              · have h5 := k2.1 hl
                unfold zOf Same at *
                split at h5
                · rename_i t qq e
                  rw [e] at hsame
                  simp only at hsame
                  split at h5
                  · rename_i e2
                    simp only [e2] at hsame ⊢
                    obtain ⟨ob, o1, o2⟩ := h5
                    obtain ⟨ob', p1, p2⟩ := hsame
                    rw [o1] at p1
                    injection p1 with p1
                    subst p1
                    first | exact ⟨_, p2, o2⟩ | (rw [e]; simp only [e2]; exact ⟨_, p2, o2⟩)
                  · exact h5.elim
                · first | trivial | (split <;> first | trivial | (rename_i hno _ _ e; exact absurd e (hno _ _)))
              · have h5 := k2.2 hl
                unfold zNo Same at *
                split at h5
                · rename_i t qq e
                  rw [e] at hsame
                  simp only at hsame
                  split at h5
                  · rename_i e2
                    simp only [e2] at hsame ⊢
                    obtain ⟨ob, o1, o2⟩ := h5
                    obtain ⟨ob', p1, p2⟩ := hsame
                    rw [o1] at p1
                    injection p1 with p1
                    subst p1
                    first | exact ⟨_, p2, o2⟩ | (rw [e]; simp only [e2]; exact ⟨_, p2, o2⟩)
                  · exact h5.elim
                · first | trivial | (split <;> first | trivial | (rename_i hno _ _ e; exact absurd e (hno _ _)))
          refine ⟨_, by rw [cxE]; exact hnew.1, by rw [cz]; exact hnew.2, ?_⟩
          simp only [hhide, Heap.add]
          rw [← hp]; exact k4
theorem app_back {P : Program} {s : Nat} {ρ : Operand → AV} {H H' : Heap} {op : Op} (ha : isApp op = true) {v : AV} (h : opE P s ρ H op = some (v, H')) {t j : Nat} {ob : Ob} (ht : t ≠ s) (ho : H'.ob t j = some ob) : ∃ o, H.ob t j = some o ∧ o.z = ob.z := by
  have fin : ∀ {z n m : Nat} {a : AV} {xs : List AV}, addA z n H s a m xs = some (v, H') → ∃ o, H.ob t j = some o ∧ o.z = ob.z := fun {z n m a xs} h => by
    unfold addA at h
    split at h
    · split at h
      · simp only [Option.some.injEq, Prod.mk.injEq] at h
        rw [← h.2] at ho; exact ⟨_, ho, rfl⟩
      · simp only [Option.some.injEq, Prod.mk.injEq] at h
        rw [← h.2] at ho
        exact ⟨ob, by simpa [Heap.ob, Heap.upd, ht] using ho, rfl⟩
    · split at h
      · rename_i s' j' g off k _ o e
        split at h
        · rename_i hc
          simp only [Option.some.injEq, Prod.mk.injEq] at h
          rw [← h.2] at ho
          simp only [Heap.ob, Heap.put, Heap.upd] at ho e ⊢
          by_cases c : t = s'
          · subst c
            rw [if_pos rfl] at ho
            by_cases c2 : j' = j
            · subst c2
              rw [e]
              rw [List.getElem?_set_self (List.getElem?_eq_some_iff.1 e).1] at ho
              injection ho with ho
              exact ⟨o, rfl, by rw [← ho]; exact hc.2.1⟩
            · rw [List.getElem?_set_ne c2] at ho
              exact ⟨_, ho, rfl⟩
          · rw [if_neg c] at ho
            exact ⟨_, ho, rfl⟩
        · cases h
      · cases h
    · cases h
  cases op with
  | call c =>
    obtain ⟨f, as, ts⟩ := c
    cases f with
    | builtin b =>
      cases b <;> simp only [isApp, Bool.false_eq_true] at ha
      simp only [opE, builtinA] at h
      split at h
      all_goals try contradiction
      all_goals (repeat' split at h)
      all_goals try (cases h; done)
      all_goals try contradiction
      all_goals exact fin h
    | _ => simp [isApp] at ha
  | _ => simp [isApp] at ha
theorem slice_back {P : Program} {s : Nat} {ρ : Operand → AV} {H H2 : Heap} {op : Op} (hs : isSlc op = true) (ho : ∀ t j ob, H.ob t j = some ob → ∃ o, H2.ob t j = some o ∧ o.z = ob.z) {r : AV × Heap} (h : opE P s ρ H op = some r) : opE P s ρ H2 op = some (r.1, H2) ∧ r.2 = H := by
  cases op with
  | slice t q lo hi mx =>
    simp only [opE] at h ⊢
    split at h
    · split at h
      · split at h
        · rename_i hc
          simp only [Option.some.injEq] at h
          subst h
          exact ⟨by rw [if_pos hc], rfl⟩
        · cases h
      · cases h
    · split at h
      · rename_i b1 b2 b3 e4
        obtain ⟨o2, e5, e6⟩ := ho _ _ _ e4
        rw [b1, b2, b3, e5]
        split at h
        · rename_i hc
          simp only [Option.some.injEq] at h
          subst h
          refine ⟨?_, rfl⟩
          dsimp only
          rw [if_pos ⟨hc.1, e6.trans hc.2⟩]
        · cases h
      · cases h
    · split at h
      · split at h
        · rename_i hc
          simp only [Option.some.injEq] at h
          subst h
          exact ⟨by rw [if_pos hc], rfl⟩
        · cases h
      · cases h
    · split at h
      · split at h
        · rename_i hc
          simp only [Option.some.injEq] at h
          subst h
          exact ⟨by rw [if_pos hc], rfl⟩
        · cases h
      · cases h
    · cases h
  | _ => simp [isSlc] at hs
theorem swapB {P : Program} {ops : Array Oper} {A : Nat → Nat} {L i j : Nat} {x y : Oper} (hij : j < i) (hx : ops[j]? = some x) (hy : ops[i]? = some y) (qx : isApp x.op = true) (qy : pureOp y.op = true ∨ isSlc y.op = true) (hap : x.apart ops y = true) (h1 : (A i).testBit j = false) (h2 : (A j).testBit i = false)
    {E : Env} {H : Heap} {K : Env → Heap → Prop} (h : stepD P ops A L j E H fun E H => stepD P ops A L i E H K) : stepD P ops A L i E H fun E H => stepD P ops A L j E H K := by
  obtain ⟨a1, a2, a3⟩ := Oper.apart_spec hap
  have qx2 : quiet x.op = false := by revert qx; unfold isApp; split <;> simp_all [quiet]
  have qy2 : quiet y.op = true := by
    rcases qy with h | h
    · revert h; unfold pureOp; split <;> simp_all [quiet]
    · revert h; unfold isSlc; split <;> simp_all [quiet]
  have cy : isCall y.op = false := by
    rcases qy with h | h
    · revert h; unfold pureOp; split <;> simp_all [isCall]
    · revert h; unfold isSlc; split <;> simp_all [isCall]
  have ly : isLoad y.op = false := by
    rcases qy with h | h
    · revert h; unfold pureOp; split <;> simp_all [isLoad]
    · revert h; unfold isSlc; split <;> simp_all [isLoad]
  have sy : soloB A ops.size i = false := by
    have hj : j < ops.size := (Array.getElem?_eq_some_iff.1 hx).1
    refine Bool.eq_false_iff.2 fun c => ?_
    have := List.all_eq_true.1 c j (List.mem_range.2 hj)
    simp [h1, h2] at this; omega
  simp only [stepD, hx, hy, qx2, qy2, sy, Bool.not_false, Bool.and_self, Bool.false_and, Bool.false_eq_true, if_true, if_false] at h ⊢
  have hp : ∀ u v, (E.put x.dst u).put y.dst v = (E.put y.dst v).put x.dst u := fun u v => put_comm (fun t ht => a2 t ht) u v
  have qr : ∀ {m : Nat} {E : Env} {H : Heap} {K : AV → List Ob → Prop}, QR P (late ops A i, lateS ops A i) L i m E H y K ↔ ∃ r, opE P (L + i) E.ev (hide L m i H) y.op = some r ∧ zCond (late ops A i, lateS ops A i) E (hide L m i H) y.op ∧ K r.1 (r.2 (L + i)) := fun {m E H K} => by
    unfold QR
    split
    · rename_i e; rw [e] at cy; cases cy
    · rfl
  have sv : ∀ {E : Env} {H : Heap} {K : AV → Heap → Prop}, stepV P (L + j) E H x K ↔ ∃ r, opE P (L + j) E.ev H x.op = some r ∧ K r.1 r.2 := fun {E H K} => by
    unfold stepV
    split
    · rename_i e; rw [e] at qx; cases qx
    · rfl
  have cxE : ∀ v H, opE P (L + j) (E.put y.dst v).ev H x.op = opE P (L + j) E.ev H x.op := fun v H => opE_congr x.op fun q hq => ev_put fun t ht c => a3 t ht (mem_looks (by rw [c] at hq; exact hq))
  have cyE : ∀ v H, opE P (L + i) (E.put x.dst v).ev H y.op = opE P (L + i) E.ev H y.op := fun v H => opE_congr y.op fun q hq => ev_put fun t ht c => a1 t ht (mem_looks (by rw [c] at hq; exact hq))
  have zst : ∀ E H, zSt (earlyB A j) (stB ops x.op) E H x.op := fun E H => by
    revert qx; unfold isApp; split <;> simp_all [zSt]
  have zco : ∀ b E H, zCond b E H y.op := fun b E H => by
    revert ly
    unfold zCond zOf zNo isLoad
    cases y.op <;> simp
  have hhide : ∀ H : Heap, hide L (A i) i H (L + i) = [] := fun H => by simp [hide]
  -- what y gives in one heap it gives in another one that has the same objects
  have yy : ∀ {Hx Hy : Heap} {r : AV × Heap}, (∀ t jj ob, Hx.ob t jj = some ob → ∃ o, Hy.ob t jj = some o ∧ o.z = ob.z) → opE P (L + i) E.ev Hx y.op = some r → opE P (L + i) E.ev Hy y.op = some (r.1, Hy) ∧ r.2 = Hx := fun {Hx Hy r} ho hr => by
    rcases qy with q | q
    · exact ⟨(pure_op q hr).2 _, (pure_op q hr).1⟩
    · exact slice_back q ho hr
  cases g1 : guardA ops E x with
  | none => simp [g1] at h
  | some b1 =>
    cases b1 with
    | false =>
      simp only [g1] at h
      rw [guard_put a1] at h
      cases g2 : guardA ops E y with
      | none => simp [g2] at h
      | some b2 =>
        cases b2 with
        | false =>
          simp only [g2] at h
          rw [guard_put a3]
          simp only [g1]
          rw [← hp]; exact h
        | true =>
          simp only [g2] at h
          rw [qr] at h ⊢
          obtain ⟨r, k1, k2, k3⟩ := h
          rw [cyE] at k1
          refine ⟨r, k1, zco _ _ _, ?_⟩
          rw [guard_put a3]
          simp only [g1]
          rw [← hp]; exact k3
    | true =>
      simp only [g1] at h
      rw [sv] at h
      obtain ⟨hz, r, k1, h⟩ := h
      rw [guard_put a1] at h
      cases g2 : guardA ops E y with
      | none => simp [g2] at h
      | some b2 =>
        cases b2 with
        | false =>
          simp only [g2] at h
          rw [guard_put a3]
          simp only [g1]
          rw [sv]
          refine ⟨zst _ _, r, by rw [cxE]; exact k1, ?_⟩
          rw [← hp]; exact h
        | true =>
          simp only [g2] at h
          rw [qr] at h ⊢
          obtain ⟨r', k3, k4, k5⟩ := h
          rw [cyE] at k3
          have hback : ∀ t jj ob, (hide L (A i) i r.2).ob t jj = some ob → ∃ o, (hide L (A i) i H).ob t jj = some o ∧ o.z = ob.z := fun t jj ob ho => by
            simp only [Heap.ob, hide] at ho ⊢
            split at ho
            · simp at ho
            · rename_i t1
              rw [if_neg t1]
              split at ho
              · rename_i hv
                rw [if_pos hv]
                exact app_back qx k1 (fun c => by
                  subst c
                  simp [vis, h1] at hv
                  omega) ho
              · simp at ho
          obtain ⟨y1, y2⟩ := yy hback k3
          refine ⟨_, y1, zco _ _ _, ?_⟩
          rw [y2, hhide] at k5
          simp only [hhide, Heap.add] at k5 ⊢
          rw [guard_put a3]
          simp only [g1]
          rw [sv]
          refine ⟨zst _ _, r, by rw [cxE]; exact k1, ?_⟩
          rw [← hp]; exact k5
theorem pull {P : Program} {ops : Array Oper} {A : Nat → Nat} {L i : Nat} {y : Oper} (hA : OkD ops A) (hy : ops[i]? = some y) (K : Env → Heap → Prop) (l2 : List Nat) : ∀ (l1 : List Nat) (_ : ∀ j ∈ l1, j < i ∧ (A i).testBit j = false) (E : Env) (H : Heap),
    drawR P ops A L (l1 ++ i :: l2) E H K → stepD P ops A L i E H fun E H => drawR P ops A L (l1 ++ l2) E H K
  | [], _, E, H, h => h
  | j :: l1, hl, E, H, h => by
    obtain ⟨hj, hb⟩ := hl j (by simp)
    have hi : i < ops.size := (Array.getElem?_eq_some_iff.1 hy).1
    have hx : ops[j]? = some ops[j] := Array.getElem?_eq_getElem (by omega)
    obtain ⟨q3, hor⟩ := hA.pair i j _ _ hj hx hy hb
    have h1 : stepD P ops A L j E H fun E H => stepD P ops A L i E H fun E H => drawR P ops A L (l1 ++ l2) E H K :=
      stepD_mono (fun E H => pull hA hy K l2 l1 (fun k hk => hl k (by simp [hk])) E H) h
    have h3 : (A j).testBit i = false := by
      cases h2 : (A j).testBit i with
      | false => rfl
      | true => have := (hA.anc j _ i hx h2).1; omega
    rcases hor with ⟨q1, q2, q4⟩ | ⟨q1, q2⟩ | ⟨q1, q2⟩
    · exact swap hj hx hy q1 q2 q3 q4 hb h3 h1
    · exact swapA hj hx hy q1 q2 q3 hb h3 h1
    · exact swapB hj hx hy q1 q2 q3 hb h3 h1
def left (n : Nat) (listed : Array Bool) : List Nat := (List.range n).filter fun i => !listed.getD i true
theorem left_split {n : Nat} {listed : Array Bool} (hn : listed.size = n) {i : Nat} (hi : listed.getD i true = false) :
    ∃ l1 l2, left n listed = l1 ++ i :: l2 ∧ left n (listed.setIfInBounds i true) = l1 ++ l2 ∧ ∀ j ∈ l1, j < i ∧ listed.getD j true = false := by
  have hin : i < n := by
    rcases Nat.lt_or_ge i n with h | h
    · exact h
    · simp [Array.getD_eq_getD_getElem?, Array.getElem?_eq_none (hn ▸ h)] at hi
  have hr : List.range n = List.range i ++ i :: List.range' (i + 1) (n - i - 1) := by
    have e : n = i + (1 + (n - i - 1)) := by omega
    rw [List.range_eq_range', List.range_eq_range', show i :: List.range' (i + 1) (n - i - 1) = List.range' i (1 + (n - i - 1)) by rw [Nat.add_comm 1, List.range'_succ]]
    conv => lhs; rw [e]
    rw [← List.range'_append_1, Nat.zero_add]
  have hs : ∀ j, j ≠ i → (listed.setIfInBounds i true).getD j true = listed.getD j true := fun j hj => by
    simp [Array.getD_eq_getD_getElem?, Array.getElem?_setIfInBounds, Ne.symm hj]
  have hi2 : (listed.setIfInBounds i true).getD i true = true := by
    simp [Array.getD_eq_getD_getElem?, Array.getElem?_setIfInBounds]
    split <;> simp
  refine ⟨(List.range i).filter fun i => !listed.getD i true, (List.range' (i + 1) (n - i - 1)).filter fun i => !listed.getD i true, ?_, ?_, fun j hj => ?_⟩
  · unfold left
    rw [hr, List.filter_append, List.filter_cons]
    simp [hi]
  · unfold left
    rw [hr, List.filter_append, List.filter_cons]
    simp only [hi2, Bool.not_true, Bool.false_eq_true, if_false]
    congr 1
    · apply List.filter_congr
      intro j hj
      rw [hs j (by have := List.mem_range.1 hj; omega)]
    · apply List.filter_congr
      intro j hj
      rw [hs j (by have := List.mem_range'_1.1 hj; omega)]
  · simp only [List.mem_filter, List.mem_range] at hj
    exact ⟨hj.1, by simpa using hj.2⟩
theorem stepD_sound {P : Program} {ops : Array Oper} {A : Nat → Nat} {L i N : Nat} {o : Oper} (ho : ops[i]? = some o) {x : Cx} (hR : Rel x) {E : Env} {a : Act} (hE : EnvR x E a) (hs : x.H (L + i) = []) (hf : ∀ t, L + ops.size ≤ t → x.H t = []) (hN : a.tmps.size = N) (hb : ∀ t, o.dst = some t → t < N)
    {K : Env → Heap → Prop} (h : stepD P ops A L i E x.H K) {Q : Exit → Act → World → Prop} {next : Act → World → Prop}
    (hn : ∀ y E' a', Rel y → Ext x y → EnvR y E' a' → a'.tmps.size = N → a'.defers = a.defers → (∀ t, t ≠ L + i → x.H t = [] → y.H t = []) → K E' y.H → next a' y.w) : wpOp P ops Q i next a x.w := by
  have hi : i < ops.size := (Array.getElem?_eq_some_iff.1 ho).1
  have hd : ∀ t, o.dst = some t → t < a.tmps.size := fun t ht => by rw [hN]; exact hb t ht
  unfold wpOp
  simp only [stepD, ho] at h ⊢
  have fin : ∀ {K' : AV → Heap → Prop}, (∀ v H', K' v H' → K (E.put o.dst v) H') → stepV P (L + i) E x.H o K' → o.wp P a x.w next Q := fun hk hst =>
    stepV_sound hR hs (M := L + ops.size) (by omega) hf hE hst hd fun y v u k1 k2 k3 k4 k5 => hn y _ _ k1 k2 k3 (by rw [put_size]; exact hN) (put_defs _ _ _) k4 (hk _ _ k5)
  split at h
  · rename_i hg
    rw [if_pos (guard_sound hE hg)]
    refine .inl ?_
    split at h
    · rename_i hq
      simp only [Bool.and_eq_true] at hq
      refine fin (K' := fun v H' => ∃ l, K (E.put o.dst v) (x.H.add (L + i) l) ∧ H' = x.H.add (L + i) l) (fun v H' e => by obtain ⟨l, e1, e2⟩ := e; rw [e2]; exact e1) ?_
      unfold QR at h
      unfold stepV
      split at h
      · split at h
        · rename_i f as _ e1 _ fn caps e2
          simp only [e1, e2]
          obtain ⟨R, _, k1, k2⟩ := h
          exact (k1 x.H hs fun _ _ _ => rfl).mono fun v H' ⟨l, h1, h2⟩ => ⟨l, k2 v l h1, h2⟩
        · exact h.elim
      · rename_i hne
        obtain ⟨⟨v', H'⟩, k1, _, k2⟩ := h
        have hm := opE_mono (H2 := x.H) hq.1 k1 (by simp [hide]) hs fun t ht => by
          unfold hide at ht ⊢
          split at ht
          · exact absurd rfl ht
          · rename_i h3
            split at ht
            · rename_i h4; rw [if_neg h3, if_pos h4]
            · exact absurd rfl ht
        split
        · rename_i f as ts e; exact absurd e (hne _ _ _)
        · exact ⟨_, hm, _, k2, (add_eq hs _).symm⟩
    · exact fin (fun v H' e => e) h.2
  · rename_i hg
    rw [if_neg (by rw [guard_sound hE hg]; simp)]
    exact hn x _ _ hR (Ext.refl x) (hE.put (.tup [] [] .nil) hd) (by rw [put_size]; exact hN) (put_defs _ _ _) (fun _ _ e => e) h
  · exact h.elim
end Go.Proofs.YtffiddkignmobaaDoorVe
end
