/- A logic of abstract values and heaps over the model's steps, proved sound: for every program that follows mixed orders. -/
import Derived.Test.YtbcdcbamdahnpaaVe4
set_option linter.unusedVariables false
set_option linter.unusedSimpArgs false
section
/- VE, part P: a drawn region does what its listed order does. -/
namespace Go.Proofs.YtbcdcbamdahnpaaVe
def okPair (ops : Array Oper) (A : Nat → Nat) (j i : Nat) : Bool :=
  (A i).testBit j || match ops[j]?, ops[i]? with
    | some x, some y => quiet x.op && quiet y.op && x.apart ops y
    | _, _ => true
def okOne (ops : Array Oper) (A : Nat → Nat) (i : Nat) (o : Oper) : Bool :=
  (o.after.all fun e => !Region.binds .any e || decide (e.on < i)) &&
  (List.range ops.size).all fun j => (!(A i).testBit j || (decide (j < i) && o.after.any fun e => Region.binds .any e && (decide (e.on = j) || (A e.on).testBit j))) &&
    (!decide (j < i) || okPair ops A j i)
def okAll (ops : Array Oper) (A : Nat → Nat) : Bool := (List.range ops.size).all fun i => match ops[i]? with
  | some o => okOne ops A i o && decide (A i < 2 ^ ops.size)
  | none => true
structure OkD (ops : Array Oper) (A : Nat → Nat) : Prop where
  lt : ∀ i o, ops[i]? = some o → ∀ e ∈ o.after, Region.binds .any e = true → e.on < i
  anc : ∀ i o j, ops[i]? = some o → (A i).testBit j = true → j < i ∧ ∃ e ∈ o.after, Region.binds .any e = true ∧ (e.on = j ∨ (A e.on).testBit j = true)
  pair : ∀ i j x y, j < i → ops[j]? = some x → ops[i]? = some y → (A i).testBit j = false → quiet x.op = true ∧ quiet y.op = true ∧ x.apart ops y = true
theorem okAll_spec {ops : Array Oper} {A : Nat → Nat} (h : okAll ops A = true) : OkD ops A := by
  have h1 : ∀ i o, ops[i]? = some o → okOne ops A i o = true ∧ A i < 2 ^ ops.size := fun i o ho => by
    have hi : i < ops.size := (Array.getElem?_eq_some_iff.1 ho).1
    have := List.all_eq_true.1 h i (List.mem_range.2 hi)
    simpa [ho] using this
  have hb : ∀ i o j, ops[i]? = some o → (A i).testBit j = true → j < ops.size := fun i o j ho hj => by
    rcases Nat.lt_or_ge j ops.size with h2 | h2
    · exact h2
    · have := Nat.testBit_lt_two_pow (Nat.lt_of_lt_of_le (h1 i o ho).2 (Nat.pow_le_pow_right (by omega) h2))
      rw [this] at hj; cases hj
  refine ⟨fun i o ho e he hb => ?_, fun i o j ho hj => ?_, fun i j x y hij hx hy hA => ?_⟩
  · have := (h1 i o ho).1
    simp only [okOne, Bool.and_eq_true, Array.all_eq_true_iff_forall_mem] at this
    have := this.1 e he
    simpa [hb] using this
  · have h2 := (h1 i o ho).1
    simp only [okOne, Bool.and_eq_true, List.all_eq_true] at h2
    have h3 := (h2.2 j (List.mem_range.2 (hb i o j ho hj))).1
    simp only [hj, Bool.not_true, Bool.false_or, Bool.and_eq_true, decide_eq_true_eq, ← Array.any_toList, List.any_eq_true] at h3
    obtain ⟨h4, e, he, h5, h6⟩ := h3
    exact ⟨h4, e, by simpa using he, h5, by simpa using h6⟩
  · have h2 := (h1 i y hy).1
    simp only [okOne, Bool.and_eq_true, List.all_eq_true] at h2
    have h3 := (h2.2 j (List.mem_range.2 (Array.getElem?_eq_some_iff.1 hx).1)).2
    simp only [hij, decide_true, Bool.not_true, Bool.false_or, okPair, hA, hx, hy, Bool.and_eq_true] at h3
    exact ⟨h3.1.1, h3.1.2, h3.2⟩
theorem QR_ex {P : Program} {L i m : Nat} {E : Env} {H : Heap} {o : Oper} {K : AV → List Ob → Prop} : QR P L i m E H o K ↔ ∃ v l, QR P L i m E H o (fun v' l' => v' = v ∧ l' = l) ∧ K v l := by
  constructor
  · unfold QR
    split
    · split
      · rintro ⟨v, l, h1, h2⟩
        exact ⟨v, l, ⟨v, l, h1, rfl, rfl⟩, h2⟩
      · exact fun h => h.elim
    · rintro ⟨r, h1, h2⟩
      exact ⟨_, _, ⟨r, h1, rfl, rfl⟩, h2⟩
  · rintro ⟨v, l, h1, h2⟩
    exact QR_mono (fun v' l' h => by rw [h.1, h.2]; exact h2) h1
theorem swap {P : Program} {ops : Array Oper} {A : Nat → Nat} {L i j : Nat} {x y : Oper} (hij : j < i) (hx : ops[j]? = some x) (hy : ops[i]? = some y) (qx : quiet x.op = true) (qy : quiet y.op = true) (hap : x.apart ops y = true) (h1 : (A i).testBit j = false) (h2 : (A j).testBit i = false)
    {E : Env} {H : Heap} {K : Env → Heap → Prop} (h : stepD P ops A L j E H fun E H => stepD P ops A L i E H K) : stepD P ops A L i E H fun E H => stepD P ops A L j E H K := by
  obtain ⟨a1, a2, a3⟩ := Oper.apart_spec hap
  have hne : L + j ≠ L + i := by omega
  have hv1 : ∀ (l : List Ob) (H : Heap) t, t ≠ L + i → vis L (A i) t = true → (H.add (L + j) l) t = H t := fun l H t ht hv => add_other (fun c => by
    subst c; simp [vis, h1] at hv; omega) l
  have hv2 : ∀ (l : List Ob) (H : Heap) t, t ≠ L + j → vis L (A j) t = true → (H.add (L + i) l) t = H t := fun l H t ht hv => add_other (fun c => by
    subst c; simp [vis, h2] at hv; omega) l
  have hv0 : ∀ (m : Nat) (H : Heap) t, t ≠ m → vis L (A i) t = true → H t = H t := fun _ _ _ _ _ => rfl
  simp only [stepD, hx, hy, qx, qy, if_true] at h ⊢
  have hp : ∀ u v, (E.put x.dst u).put y.dst v = (E.put y.dst v).put x.dst u := fun u v => put_comm (fun t ht => a2 t ht) u v
  cases g1 : guardA ops E x with
  | none => simp [g1] at h
  | some b1 =>
    cases b1 with
    | false =>
      simp only [g1] at h
      rw [guard_put a1] at h
      cases g2 : guardA ops E y with
      | none => simp [g2] at h
      | some b2 =>
        cases b2 with
        | false =>
          simp only [g2] at h
          rw [guard_put a3]
          simp only [g1]
          rw [← hp]; exact h
        | true =>
          simp only [g2] at h
          rw [QR_local a1 (fun _ _ _ => rfl)] at h
          refine QR_mono (fun v l hk => ?_) h
          rw [guard_put a3]
          simp only [g1]
          rw [← hp]; exact hk
    | true =>
      simp only [g1] at h
      cases g2 : guardA ops E y with
      | none =>
        exfalso
        revert h
        simp only [guard_put a1, g2]
        unfold QR
        split
        · split
          · rintro ⟨_, _, _, h⟩; exact h
          · exact id
        · rintro ⟨_, _, h⟩; exact h
      | some b2 =>
        cases b2 with
        | false =>
          rw [guard_put a3]
          simp only [g1]
          rw [QR_local a3 (fun _ _ _ => rfl)]
          refine QR_mono (fun v l hk => ?_) h
          rw [guard_put a1] at hk
          simp only [g2] at hk
          rw [← hp]; exact hk
        | true =>
          have h3 : QR P L j (A j) E H x fun v l => QR P L i (A i) E H y fun v' l' => K ((E.put y.dst v').put x.dst v) ((H.add (L + i) l').add (L + j) l) := by
            refine QR_mono (fun v l hk => ?_) h
            rw [guard_put a1] at hk
            simp only [g2] at hk
            rw [QR_local a1 (hv1 l H)] at hk
            refine QR_mono (fun v' l' hk => ?_) hk
            rw [← hp, ← add_comm' hne]; exact hk
          have h4 : QR P L i (A i) E H y fun v' l' => QR P L j (A j) E H x fun v l => K ((E.put y.dst v').put x.dst v) ((H.add (L + i) l').add (L + j) l) := by
            obtain ⟨v, l, h4, h5⟩ := QR_ex.1 h3
            obtain ⟨v', l', h6, h7⟩ := QR_ex.1 h5
            exact QR_ex.2 ⟨v', l', h6, QR_ex.2 ⟨v, l, h4, h7⟩⟩
          refine QR_mono (fun v' l' hk => ?_) h4
          rw [guard_put a3]
          simp only [g1]
          rw [QR_local a3 (hv2 l' H)]
          exact hk
theorem pull {P : Program} {ops : Array Oper} {A : Nat → Nat} {L i : Nat} {y : Oper} (hA : OkD ops A) (hy : ops[i]? = some y) (K : Env → Heap → Prop) (l2 : List Nat) : ∀ (l1 : List Nat) (_ : ∀ j ∈ l1, j < i ∧ (A i).testBit j = false) (E : Env) (H : Heap),
    drawR P ops A L (l1 ++ i :: l2) E H K → stepD P ops A L i E H fun E H => drawR P ops A L (l1 ++ l2) E H K
  | [], _, E, H, h => h
  | j :: l1, hl, E, H, h => by
    obtain ⟨hj, hb⟩ := hl j (by simp)
    have hi : i < ops.size := (Array.getElem?_eq_some_iff.1 hy).1
    have hx : ops[j]? = some ops[j] := Array.getElem?_eq_getElem (by omega)
    obtain ⟨q1, q2, q3⟩ := hA.pair i j _ _ hj hx hy hb
    have h1 : stepD P ops A L j E H fun E H => stepD P ops A L i E H fun E H => drawR P ops A L (l1 ++ l2) E H K :=
      stepD_mono (fun E H => pull hA hy K l2 l1 (fun k hk => hl k (by simp [hk])) E H) h
    refine swap hj hx hy q1 q2 q3 hb ?_ h1
    cases h2 : (A j).testBit i with
    | false => rfl
    | true => have := (hA.anc j _ i hx h2).1; omega
def left (n : Nat) (listed : Array Bool) : List Nat := (List.range n).filter fun i => !listed.getD i true
theorem left_split {n : Nat} {listed : Array Bool} (hn : listed.size = n) {i : Nat} (hi : listed.getD i true = false) :
    ∃ l1 l2, left n listed = l1 ++ i :: l2 ∧ left n (listed.setIfInBounds i true) = l1 ++ l2 ∧ ∀ j ∈ l1, j < i ∧ listed.getD j true = false := by
  have hin : i < n := by
    rcases Nat.lt_or_ge i n with h | h
    · exact h
    · simp [Array.getD_eq_getD_getElem?, Array.getElem?_eq_none (hn ▸ h)] at hi
  have hr : List.range n = List.range i ++ i :: List.range' (i + 1) (n - i - 1) := by
    have e : n = i + (1 + (n - i - 1)) := by omega
    rw [List.range_eq_range', List.range_eq_range', show i :: List.range' (i + 1) (n - i - 1) = List.range' i (1 + (n - i - 1)) by rw [Nat.add_comm 1, List.range'_succ]]
    conv => lhs; rw [e]
    rw [← List.range'_append_1, Nat.zero_add]
  have hs : ∀ j, j ≠ i → (listed.setIfInBounds i true).getD j true = listed.getD j true := fun j hj => by
    simp [Array.getD_eq_getD_getElem?, Array.getElem?_setIfInBounds, Ne.symm hj]
  have hi2 : (listed.setIfInBounds i true).getD i true = true := by
    simp [Array.getD_eq_getD_getElem?, Array.getElem?_setIfInBounds]
    split <;> simp
  refine ⟨(List.range i).filter fun i => !listed.getD i true, (List.range' (i + 1) (n - i - 1)).filter fun i => !listed.getD i true, ?_, ?_, fun j hj => ?_⟩
  · unfold left
    rw [hr, List.filter_append, List.filter_cons]
    simp [hi]
  · unfold left
    rw [hr, List.filter_append, List.filter_cons]
    simp only [hi2, Bool.not_true, Bool.false_eq_true, if_false]
    congr 1
    · apply List.filter_congr
      intro j hj
      rw [hs j (by have := List.mem_range.1 hj; omega)]
    · apply List.filter_congr
      intro j hj
      rw [hs j (by have := List.mem_range'_1.1 hj; omega)]
  · simp only [List.mem_filter, List.mem_range] at hj
    exact ⟨hj.1, by simpa using hj.2⟩
theorem stepD_sound {P : Program} {ops : Array Oper} {A : Nat → Nat} {L i N : Nat} {o : Oper} (ho : ops[i]? = some o) {x : Cx} (hR : Rel x) {E : Env} {a : Act} (hE : EnvR x E a) (hs : x.H (L + i) = []) (hf : ∀ t, L + ops.size ≤ t → x.H t = []) (hN : a.tmps.size = N) (hb : ∀ t, o.dst = some t → t < N)
    {K : Env → Heap → Prop} (h : stepD P ops A L i E x.H K) {Q : Exit → Act → World → Prop} {next : Act → World → Prop}
    (hn : ∀ y E' a', Rel y → Ext x y → EnvR y E' a' → a'.tmps.size = N → a'.defers = a.defers → (∀ t, t ≠ L + i → x.H t = [] → y.H t = []) → K E' y.H → next a' y.w) : wpOp P ops Q i next a x.w := by
  have hi : i < ops.size := (Array.getElem?_eq_some_iff.1 ho).1
  have hd : ∀ t, o.dst = some t → t < a.tmps.size := fun t ht => by rw [hN]; exact hb t ht
  unfold wpOp
  simp only [stepD, ho] at h ⊢
  have fin : ∀ {K' : AV → Heap → Prop}, (∀ v H', K' v H' → K (E.put o.dst v) H') → stepV P (L + i) E x.H o K' → o.wp P a x.w next Q := fun hk hst =>
    stepV_sound hR hs (M := L + ops.size) (by omega) hf hE hst hd fun y v u k1 k2 k3 k4 k5 => hn y _ _ k1 k2 k3 (by rw [put_size]; exact hN) (put_defs _ _ _) k4 (hk _ _ k5)
  split at h
  · rename_i hg
    rw [if_pos (guard_sound hE hg)]
    refine .inl ?_
    split at h
    · rename_i hq
      obtain ⟨v, l, h1, h2⟩ := QR_ex.1 h
      refine fin (K' := fun v' H' => v' = v ∧ H' = x.H.add (L + i) l) (fun v' H' e => by rw [e.1, e.2]; exact h2) ?_
      unfold QR at h1
      unfold stepV
      split at h1
      · split at h1
        · rename_i f as _ e1 _ fn caps e2
          simp only [e1, e2]
          obtain ⟨u, obs, k1, rfl, rfl⟩ := h1
          exact k1 x.H fun _ _ _ => rfl
        · exact h1.elim
      · rename_i hne
        obtain ⟨⟨v', H'⟩, k1, rfl, rfl⟩ := h1
        have hm := opE_mono (H2 := x.H) hq k1 (by simp [hide]) hs fun t ht => by
          unfold hide at ht ⊢
          split at ht
          · exact absurd rfl ht
          · rename_i h3
            split at ht
            · rename_i h4; rw [if_neg h3, if_pos h4]
            · exact absurd rfl ht
        split
        · rename_i f as ts e; exact absurd e (hne _ _ _)
        · exact ⟨_, hm, rfl, (add_eq hs _).symm⟩
    · exact fin (fun v H' e => e) h
  · rename_i hg
    rw [if_neg (by rw [guard_sound hE hg]; simp)]
    exact hn x _ _ hR (Ext.refl x) (hE.put (.tup [] [] .nil) hd) (by rw [put_size]; exact hN) (put_defs _ _ _) (fun _ _ e => e) h
  · exact h.elim
end Go.Proofs.YtbcdcbamdahnpaaVe
end
