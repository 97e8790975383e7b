/- A logic of abstract values and heaps over the model's steps, proved sound: for every program that follows mixed orders. -/
import Derived.Test.YtffiddkignmobaaDoorVe3
set_option linter.unusedVariables false
set_option linter.unusedSimpArgs false
section
/- VE, part O: drawn regions: quiet operations, what they look at, in which order they may come. -/
namespace Go.Proofs.YtffiddkignmobaaDoorVe
def quiet : Op → Bool
  | .move _ | .assign _ | .pick .. | .alloc _ | .box .. | .build .. | .buildSlice .. | .load .. | .nilCheck _ | .binOp .. | .unOp .. | .convert .. | .makeFunc .. | .makeSlice .. | .slice .. | .fieldAddr .. | .indexAddr .. | .index .. | .extract .. => true
  | .call ⟨.value _, _, _⟩ => true
  | .call ⟨.builtin .len, _, _⟩ | .call ⟨.builtin .max, _, _⟩ | .call ⟨.builtin .min, _, _⟩ => true
  | _ => false
theorem opE_congr {P : Program} {s : Nat} {ρ ρ' : Operand → AV} {H : Heap} (op : Op) (h : ∀ q ∈ op.operands, ρ q = ρ' q) : opE P s ρ H op = opE P s ρ' H op := by
  cases op with
  | build t ps =>
    have : ∀ p ∈ ps.toList, (p.1, ρ p.2) = (p.1, ρ' p.2) := fun p hp => by rw [h p.2 (parts_mem hp)]
    simp only [opE, List.map_congr_left this]
  | buildSlice t n ps =>
    have : ∀ p ∈ ps.toList, (p.1, ρ p.2) = (p.1, ρ' p.2) := fun p hp => by rw [h p.2 (parts_mem hp)]
    simp only [opE, List.map_congr_left this]
  | call c =>
    obtain ⟨f, as, ts⟩ := c
    cases f with
    | builtin b =>
      have : ∀ p ∈ as.toList, ρ p = ρ' p := fun p hp => h p (by simp [Op.operands, Call.operands]; simpa using hp)
      simp only [opE, List.map_congr_left this]
    | _ => simp only [opE]
  | makeFunc fn first caps =>
    cases fn <;> simp only [opE]
    have : ∀ p ∈ caps.toList, ρ p = ρ' p := fun p hp => h p (by simp [Op.operands]; exact .inr (by simpa using hp))
    simp only [List.map_congr_left this]
  | slice t p lo hi mx =>
    have h1 : ρ p = ρ' p := h p (by simp [Op.operands])
    have h2 : lo.map ρ = lo.map ρ' := by cases lo with
      | none => rfl
      | some q => simp only [Option.map_some]; rw [h q (by simp [Op.operands])]
    have h3 : hi.map ρ = hi.map ρ' := by cases hi with
      | none => rfl
      | some q => simp only [Option.map_some]; rw [h q (by simp [Op.operands])]
    simp only [opE, h1, h2, h3]
  | _ => simp only [opE, Op.operands] at h ⊢ <;> (try simp at h) <;> simp_all
theorem upd_self {H : Heap} {s : Nat} : H.upd s (H s) = H := by
  funext t; simp only [Heap.upd]; split <;> simp_all
theorem loadA_mono {H H2 : Heap} (hH : ∀ t, H t ≠ [] → H2 t = H t) {n : Nat} {a : AV} {cs : List AV} (h : loadA H n a = some cs) : loadA H2 n a = some cs := by
  cases a <;> simp only [loadA] at h ⊢ <;> try exact h
  rename_i s j g off
  split at h
  · rename_i o ho
    have : H2.ob s j = some o := by
      simp only [Heap.ob] at ho ⊢
      rw [hH s (fun e => by simp [e] at ho)]; exact ho
    rw [this]; exact h
  · cases h
theorem opE_mono {P : Program} {s : Nat} {ρ : Operand → AV} {H H2 : Heap} {op : Op} (hq : quiet op = true) {v : AV} {H' : Heap} (h : opE P s ρ H op = some (v, H')) (hs : H s = []) (hs2 : H2 s = []) (hH : ∀ t, H t ≠ [] → H2 t = H t) :
    opE P s ρ H2 op = some (v, H2.upd s (H' s)) := by
  have e : H2.upd s [] = H2 := by rw [← hs2]; exact upd_self
  have e2 : ∀ l, (H.upd s l) s = l := fun l => by simp [Heap.upd]
  have hob : ∀ s' j o, H.ob s' j = some o → H2.ob s' j = some o := fun s' j o ho => by
    simp only [Heap.ob] at ho ⊢
    rw [hH s' (fun e => by simp [e] at ho)]; exact ho
  cases op with
  | load t a =>
    simp only [opE] at h ⊢
    split at h
    · split at h
      · rename_i hl
        rw [loadA_mono hH hl]
        simp only
        repeat' split at h
        all_goals try (cases h; done)
        all_goals (simp only [Option.some.injEq, Prod.mk.injEq] at h; obtain ⟨rfl, rfl⟩ := h; simp_all)
      · cases h
    · cases h
  | slice t p lo hi mx =>
    simp only [opE] at h ⊢
    split at h
    · split at h
      · split at h
        · simp only [Option.some.injEq, Prod.mk.injEq] at h; obtain ⟨rfl, rfl⟩ := h; simp_all
        · cases h
      · cases h
    · split at h
      · rename_i ho
        have := hob _ _ _ ho
        split at h
        · simp only [Option.some.injEq, Prod.mk.injEq] at h; obtain ⟨rfl, rfl⟩ := h; simp_all
        · cases h
      · cases h
    · split at h
      · split at h
        · simp only [Option.some.injEq, Prod.mk.injEq] at h; obtain ⟨rfl, rfl⟩ := h; simp_all
        · cases h
      · cases h
    · split at h
      · split at h
        · simp only [Option.some.injEq, Prod.mk.injEq] at h; obtain ⟨rfl, rfl⟩ := h; simp_all
        · cases h
      · cases h
    · cases h
  | call c =>
    obtain ⟨f, as, ts⟩ := c
    cases f with
    | builtin b =>
      simp only [opE] at h ⊢
      cases b <;> simp only [quiet, Bool.false_eq_true] at hq
      all_goals
        unfold builtinA at h ⊢
        split at h <;> first | (cases h; done) | skip
        all_goals try (simp only [Option.some.injEq, Prod.mk.injEq] at h; obtain ⟨rfl, rfl⟩ := h; simp_all; done)
        all_goals (repeat' split at h)
        all_goals first | contradiction | (cases h; done) | (simp only [Option.some.injEq, Prod.mk.injEq] at h; obtain ⟨rfl, rfl⟩ := h; simp_all)
    | _ => simp only [opE] at h; cases h
  | makeSlice t l c =>
    simp only [opE] at h ⊢
    split at h
    · split at h
      · split at h
        · rename_i hc
          rw [if_pos hc]
          simp only [Option.some.injEq, Prod.mk.injEq] at h; obtain ⟨rfl, rfl⟩ := h; rw [e2]
        · cases h
      · cases h
    · cases h
  | convert src dst q =>
    simp only [opE] at h ⊢
    split at h
    · simp only [Option.some.injEq, Prod.mk.injEq] at h; obtain ⟨rfl, rfl⟩ := h; simp_all
    · have h1 := strA_mono h hob
      have h2 := strA_heap h
      simp only at h2
      subst h2
      simp_all
    · cases h
  | go _ | defer _ | send _ _ | recv _ _ _ | select _ _ | panic _ | next _ _ | entry _ | range _ _ | waits _ | ready _ => cases hq
  | makeFunc fn first caps =>
    cases fn <;> simp only [opE] at h
    rw [opE]
    all_goals try (cases h; done)
    split at h
    · simp only [Option.some.injEq, Prod.mk.injEq] at h; obtain ⟨rfl, rfl⟩ := h; simp_all
    · cases h
  | _ =>
    first
    | (cases hq; done)
    | (simp only [opE] at h; cases h; done)
    | (simp only [opE] at h ⊢
       repeat' split at h
       all_goals first
         | (cases h; done)
         | (simp only [Option.some.injEq, Prod.mk.injEq] at h; obtain ⟨rfl, rfl⟩ := h; simp_all)
         | (simp only [Option.map_eq_some_iff, Prod.mk.injEq] at h ⊢; obtain ⟨w, h1, h2, h3⟩ := h; subst h3; exact ⟨w, h1, h2, by rw [hs, e]⟩))
/-- Operations that do not look at the heap. -/
def pureOp : Op → Bool
  | .move _ | .assign _ | .pick .. | .build .. | .nilCheck _ | .binOp .. | .unOp .. | .makeFunc .. | .fieldAddr .. | .indexAddr .. | .index .. | .extract .. => true
  | .call ⟨.builtin .len, _, _⟩ | .call ⟨.builtin .max, _, _⟩ | .call ⟨.builtin .min, _, _⟩ => true
  | _ => false
theorem pure_op {P : Program} {s : Nat} {ρ : Operand → AV} {H : Heap} {op : Op} (hp : pureOp op = true) {r : AV × Heap} (h : opE P s ρ H op = some r) : r.2 = H ∧ ∀ H2, opE P s ρ H2 op = some (r.1, H2) := by
  cases op with
  | call c =>
    obtain ⟨f, as, ts⟩ := c
    cases f with
    | builtin b =>
      cases b <;> simp only [pureOp, Bool.false_eq_true] at hp
      all_goals
        simp only [opE] at h ⊢
        unfold builtinA at h ⊢
        split at h <;> first | (cases h; done) | skip
        all_goals try (simp only [Option.some.injEq] at h; subst h; exact ⟨rfl, fun _ => rfl⟩)
        all_goals (repeat' split at h)
        all_goals first | contradiction | (cases h; done) | (simp only [Option.some.injEq] at h; subst h; exact ⟨rfl, fun _ => rfl⟩)
    | _ => simp [pureOp] at hp
  | makeFunc fn first caps =>
    cases fn <;> simp only [opE] at h
    all_goals try (cases h; done)
    split at h
    · rename_i e
      simp only [Option.some.injEq] at h; subst h
      exact ⟨rfl, fun H2 => by simp [opE, e]⟩
    · cases h
  | binOp op t x y u =>
    simp only [opE] at h ⊢
    split at h
    · simp only [Option.some.injEq] at h; subst h; exact ⟨rfl, fun _ => rfl⟩
    · simp only [Option.map_eq_some_iff] at h
      obtain ⟨v, h1, rfl⟩ := h
      exact ⟨rfl, fun _ => by simp [h1]⟩
  | unOp op t x =>
    simp only [opE, Option.map_eq_some_iff] at h ⊢
    obtain ⟨v, h1, rfl⟩ := h
    exact ⟨rfl, fun _ => ⟨v, h1, rfl⟩⟩
  | build t ps =>
    simp only [opE] at h ⊢
    split at h
    · simp only [Option.map_eq_some_iff] at h; obtain ⟨v, h1, rfl⟩ := h; exact ⟨rfl, fun _ => by simp [h1]⟩
    · simp only [Option.map_eq_some_iff] at h; obtain ⟨v, h1, rfl⟩ := h; exact ⟨rfl, fun _ => by simp [h1]⟩
    · cases h
  | extract x j =>
    simp only [opE] at h ⊢
    split at h
    · simp only [Option.map_eq_some_iff] at h; obtain ⟨v, h1, rfl⟩ := h; exact ⟨rfl, fun _ => by simp [h1]⟩
    · cases h
  | index t x j =>
    simp only [opE] at h ⊢
    split at h
    · split at h
      · simp only [Option.map_eq_some_iff] at h; obtain ⟨v, h1, rfl⟩ := h; exact ⟨rfl, fun _ => by simp [h1]⟩
      · cases h
    · cases h
  | _ =>
    first
    | (simp [pureOp] at hp; done)
    | (simp only [opE] at h ⊢
       (repeat' split at h)
       all_goals first | (cases h; done) | contradiction | (simp only [Option.some.injEq] at h; subst h; first | exact ⟨rfl, fun _ => rfl⟩ | exact ⟨rfl, fun _ => by simp_all⟩) | skip)
def isLoad : Op → Bool
  | .load .. => true
  | _ => false
def isApp : Op → Bool
  | .call ⟨.builtin .append, _, _⟩ => true
  | _ => false
/-- A slice. -/
def isSlc : Op → Bool
  | .slice .. => true
  | _ => false
/-- A store whose address is an element's. -/
def stB (ops : Array Oper) : Op → Bool
  | .store _ (.tmp a) _ => ops.any fun o => decide (o.dst = some a) && (match o.op with
    | .indexAddr .. => true
    | _ => false)
  | _ => false
/-- Does an operation come later that changes something, in no set order to this one? -/
def late (ops : Array Oper) (A : Nat → Nat) (i : Nat) : Bool := (List.range ops.size).any fun k => decide (i < k) && (!(A k).testBit i && match ops[k]? with
  | some y => isApp y.op || stB ops y.op
  | none => false)
def isStore : Op → Bool
  | .store .. => true
  | _ => false
/-- Does a store come later, in no set order to this one? -/
def lateS (ops : Array Oper) (A : Nat → Nat) (i : Nat) : Bool := (List.range ops.size).any fun k => decide (i < k) && (!(A k).testBit i && match ops[k]? with
  | some y => isStore y.op && !stB ops y.op
  | none => false)
/-- Does something come earlier in no set order to this one? -/
def earlyB (A : Nat → Nat) (i : Nat) : Bool := (List.range i).any fun k => !(A i).testBit k
/-- A load out of a slice. -/
def zNo (E : Env) (H : Heap) : Op → Prop
  | .load _ q => match E.ev q with
    | .ptr s j _ _ => ∃ ob, H.ob s j = some ob ∧ ob.z ≠ 0
    | _ => False
  | _ => True
/-- Slices (true) or variables. -/
def zCls (c : Bool) (z : Nat) : Prop := match c with
  | true => z ≠ 0
  | false => z = 0
/-- A store into a variable, or into a slice. -/
def zSt (b c : Bool) (E : Env) (H : Heap) : Op → Prop
  | .store _ a _ => b = true → match E.ev a with
    | .ptr s j _ _ => ∃ ob, H.ob s j = some ob ∧ zCls c ob.z
    | _ => False
  | _ => True
/-- A load out of a variable (its object is no slice's: z = 0). -/
def zOf (E : Env) (H : Heap) : Op → Prop
  | .load _ q => match E.ev q with
    | .ptr s j _ _ => ∃ ob, H.ob s j = some ob ∧ ob.z = 0
    | _ => False
  | _ => True
/-- What operation i may see of the heap: what was there before the region, and what its ancestors (the mask m) made. -/
def vis (L m t : Nat) : Bool := decide (t < L) || m.testBit (t - L)
def hide (L m i : Nat) (H : Heap) : Heap := fun t => if t = L + i then [] else if vis L m t = true then H t else []
def Heap.add (H : Heap) (s : Nat) : List Ob → Heap
  | [] => H
  | o :: l => H.upd s (o :: l)
theorem add_eq {H : Heap} {s : Nat} (hs : H s = []) (l : List Ob) : H.add s l = H.upd s l := by
  cases l with
  | nil => have := upd_self (H := H) (s := s); rw [hs] at this; exact this.symm
  | cons o l => rfl
/-- Is it a call? -/
def isCall : Op → Bool
  | .call ⟨.value _, _, _⟩ => true
  | _ => false
/-- An operation that stands in a set order to each other one. -/
def soloB (A : Nat → Nat) (n i : Nat) : Bool := (List.range n).all fun j => decide (j = i) || (A i).testBit j || (A j).testBit i
def zCond (zb : Bool × Bool) (E : Env) (H : Heap) (op : Op) : Prop := (zb.1 = true → zOf E H op) ∧ (zb.2 = true → zNo E H op)
section
variable (P : Program)
def QR (zb : Bool × Bool) (L i m : Nat) (E : Env) (H : Heap) (o : Oper) (K : AV → List Ob → Prop) : Prop :=
  match o.op with
  | .call ⟨.value f, as, _⟩ => match E.ev f with
    | .fn f caps => ∃ R : AV → List Ob → Prop, (∃ v obs, R v obs) ∧ (∀ H2, H2 (L + i) = [] → (∀ t, t ≠ L + i → vis L m t = true → H2 t = H t) → CallV P f (as.toList.map E.ev ++ caps) H2 (L + i) fun av H' => ∃ obs, R av obs ∧ H' = H2.add (L + i) obs) ∧ ∀ v obs, R v obs → K v obs
    | _ => False
  | op => ∃ r, opE P (L + i) E.ev (hide L m i H) op = some r ∧ zCond zb E (hide L m i H) op ∧ K r.1 (r.2 (L + i))
def stepD (ops : Array Oper) (A : Nat → Nat) (L i : Nat) (E : Env) (H : Heap) (K : Env → Heap → Prop) : Prop := match ops[i]? with
  | none => K E H
  | some o => match guardA ops E o with
    | some true => if (quiet o.op && !soloB A ops.size i) = true then QR P (late ops A i, lateS ops A i) L i (A i) E H o fun v obs => K (E.put o.dst v) (H.add (L + i) obs)
      else zSt (earlyB A i) (stB ops o.op) E H o.op ∧ stepV P (L + i) E H o fun v H' => K (E.put o.dst v) H'
    | some false => K (E.put o.dst (.tup [])) H
    | none => False
def drawR (ops : Array Oper) (A : Nat → Nat) (L : Nat) : List Nat → Env → Heap → (Env → Heap → Prop) → Prop
  | [], E, H, K => K E H
  | i :: l, E, H, K => stepD P ops A L i E H fun E H => drawR ops A L l E H K
end
theorem stepV_mono {P : Program} {s : Nat} {E : Env} {H : Heap} {o : Oper} {K K' : AV → Heap → Prop} (hk : ∀ v H, K v H → K' v H) : stepV P s E H o K → stepV P s E H o K' := by
  unfold stepV
  split
  · split
    · exact fun h => CallV.mono h hk
    · exact id
  · exact fun ⟨r, h1, h2⟩ => ⟨r, h1, hk _ _ h2⟩
theorem QR_mono {P : Program} {zb : Bool × Bool} {L i m : Nat} {E : Env} {H : Heap} {o : Oper} {K K' : AV → List Ob → Prop} (hk : ∀ v l, K v l → K' v l) : QR P zb L i m E H o K → QR P zb L i m E H o K' := by
  unfold QR
  split
  · split
    · exact fun ⟨R, h1, h2, h3⟩ => ⟨R, h1, h2, fun v l h => hk _ _ (h3 v l h)⟩
    · exact id
  · exact fun ⟨r, h1, h0, h2⟩ => ⟨r, h1, h0, hk _ _ h2⟩
theorem stepD_mono {P : Program} {ops : Array Oper} {A : Nat → Nat} {L i : Nat} {E : Env} {H : Heap} {K K' : Env → Heap → Prop} (hk : ∀ E H, K E H → K' E H) : stepD P ops A L i E H K → stepD P ops A L i E H K' := by
  unfold stepD
  split
  · exact hk _ _
  · split
    · split
      · exact QR_mono (fun _ _ => hk _ _)
      · exact fun h => ⟨h.1, stepV_mono (fun _ _ => hk _ _) h.2⟩
    · exact hk _ _
    · exact id
/-- A temporary that an operation does not look at may change. -/
theorem ev_put {E : Env} {d : Option Nat} {v : AV} {q : Operand} (h : ∀ t, d = some t → q ≠ .tmp t) : (E.put d v).ev q = E.ev q := by
  cases d with
  | none => rfl
  | some d =>
    cases q with
    | tmp t =>
      have := h d rfl
      simp only [ne_eq, Operand.tmp.injEq] at this
      simp [Env.put, Env.upd, Env.ev, this]
    | _ => rfl
theorem mem_looks {ops : Array Oper} {o : Oper} {t : Nat} (h : Operand.tmp t ∈ o.op.operands) : t ∈ o.looksAt ops := by
  simp only [Oper.looksAt, List.mem_append, List.mem_filterMap]
  exact .inl ⟨.tmp t, by simpa using h, rfl⟩
theorem guard_put {ops : Array Oper} {E : Env} {o : Oper} {d : Option Nat} {v : AV} (h : ∀ t, d = some t → t ∉ o.looksAt ops) : guardA ops (E.put d v) o = guardA ops E o := by
  unfold guardA
  split
  · rfl
  · rename_i j want e
    cases hb : (ops[j]?).bind (·.dst) with
    | none => rfl
    | some g =>
      have : (E.put d v) g = E g := by
        cases d with
        | none => rfl
        | some d =>
          have h2 : g ≠ d := fun c => by
            subst c
            exact h g rfl (by simp [Oper.looksAt, e, hb])
          simp [Env.put, Env.upd, h2]
      simp only [this]
theorem QR_local {P : Program} {zb : Bool × Bool} {ops : Array Oper} {L i m : Nat} {E : Env} {H H1 : Heap} {o : Oper} {d : Option Nat} {v : AV} (h : ∀ t, d = some t → t ∉ o.looksAt ops) (hH : ∀ t, t ≠ L + i → vis L m t = true → H1 t = H t) {K : AV → List Ob → Prop} :
    QR P zb L i m (E.put d v) H1 o K ↔ QR P zb L i m E H o K := by
  have he : ∀ q ∈ o.op.operands, (E.put d v).ev q = E.ev q := fun q hq => ev_put fun t ht c => h t ht (mem_looks (by rw [c] at hq; exact hq))
  have hh : hide L m i H1 = hide L m i H := by
    funext t
    unfold hide
    split
    · rfl
    · split
      · rename_i h1 h2; exact hH t h1 h2
      · rfl
  unfold QR
  split
  · rename_i f as ts e
    have hf : (E.put d v).ev f = E.ev f := he f (by simp [e, Op.operands, Call.operands])
    have ha : as.toList.map (E.put d v).ev = as.toList.map E.ev := List.map_congr_left fun q hq => he q (by simp only [e, Op.operands, Call.operands, Array.mem_append]; exact .inr (by simpa using hq))
    rw [hf, ha]
    split
    · constructor
      · rintro ⟨R, h0, h1, h2⟩
        exact ⟨R, h0, fun H2 hf h3 => h1 H2 hf fun t ht hv => (h3 t ht hv).trans (hH t ht hv).symm, h2⟩
      · rintro ⟨R, h0, h1, h2⟩
        exact ⟨R, h0, fun H2 hf h3 => h1 H2 hf fun t ht hv => (h3 t ht hv).trans (hH t ht hv), h2⟩
    · rfl
  · have hz : zOf (E.put d v) (hide L m i H) o.op = zOf E (hide L m i H) o.op := by
      unfold zOf
      split
      · rename_i t q e
        rw [he q (by simp [e, Op.operands])]
      · rfl
    have hn : zNo (E.put d v) (hide L m i H) o.op = zNo E (hide L m i H) o.op := by
      unfold zNo
      split
      · rename_i t q e
        rw [he q (by simp [e, Op.operands])]
      · rfl
    unfold zCond
    rw [hh, opE_congr o.op he, hz, hn]
theorem put_comm {E : Env} {d e : Option Nat} (h : ∀ t, d = some t → e ≠ some t) (u v : AV) : (E.put d u).put e v = (E.put e v).put d u := by
  cases d with
  | none => rfl
  | some d =>
    cases e with
    | none => rfl
    | some e =>
      have : e ≠ d := fun c => h d rfl (by rw [c])
      funext t
      simp only [Env.put, Env.upd]
      by_cases h1 : t = d
      · subst h1; simp [Ne.symm this]
      · simp [h1]
theorem add_comm' {H : Heap} {s t : Nat} (h : s ≠ t) (k l : List Ob) : (H.add s k).add t l = (H.add t l).add s k := by
  cases k <;> cases l <;> simp only [Heap.add]
  funext u
  simp only [Heap.upd]
  by_cases h1 : u = s
  · subst h1; simp [h]
  · simp [h1]
theorem add_other {H : Heap} {s t : Nat} (h : t ≠ s) (k : List Ob) : (H.add s k) t = H t := by
  cases k <;> simp [Heap.add, Heap.upd, h]
end Go.Proofs.YtffiddkignmobaaDoorVe
end
