/- A typed weakest precondition over that logic, proved sound: for every program with a table of types that fits it. -/
import Derived.Test.YtffiddkignmobaaDoorTv3
set_option linter.unusedVariables false
set_option linter.unusedSimpArgs false
section
/- TV, part U: regions and code are sound. -/
namespace Go.Proofs.YtffiddkignmobaaDoorTv
open Go.Proofs.YtffiddkignmobaaDoorVe
mutual
theorem constV_vt (m : MS) (σ : List Obj) : ∀ v, VT m σ (constV v) (ofVal v)
  | .int k n => by unfold constV ofVal; exact VT.int n
  | .bool b => by unfold constV ofVal; exact VT.bool b
  | .string s => by unfold constV ofVal; exact VT.str s
  | .slice none 0 0 => by unfold constV ofVal; exact .nil _
  | .pointer none => by unfold constV ofVal; exact .nilp
  | .agg ⟨cs⟩ => by
    unfold constV ofVal
    exact .agg _ _ (constVs_vt m σ cs)
  | .slice none 0 (c + 1) => by simp only [constV]; exact .undef _
  | .slice none (n + 1) c => by simp only [constV]; exact .undef _
  | .slice (some a) n c => by simp only [constV]; exact .undef _
  | .pointer (some a) => by simp only [constV]; exact .undef _
  | .nilFunc => by simp only [constV]; exact .undef _
  | .float .. => by simp only [constV]; exact .undef _
  | .complex .. => by simp only [constV]; exact .undef _
  | .map .. => by simp only [constV]; exact .undef _
  | .chan .. => by simp only [constV]; exact .undef _
  | .func .. => by simp only [constV]; exact .undef _
  | .iface .. => by simp only [constV]; exact .undef _
  | .nilIface => by simp only [constV]; exact .undef _
  | .tuple .. => by simp only [constV]; exact .undef _
theorem constVs_vt (m : MS) (σ : List Obj) : ∀ v, VTL m σ (constVs v) (ofVals v)
  | [] => by unfold constVs ofVals; exact .nil
  | c :: cs => by unfold constVs ofVals; exact .cons _ _ _ _ (constV_vt m σ c) (constVs_vt m σ cs)
end
/-- The state of a body, and that of the model. -/
structure TR (m0 : MS) (σ0 : List Obj) (M : Nat) (E : EnvV) (σ : List Obj) (L : Nat) (Ev : Env) (m : MS) : Prop where
  st : St m σ
  env : ∀ t, VT m σ (E t) (Ev t)
  free : ∀ t, L ≤ t → m.H t = []
  base : ∀ t j, t < M → (∀ k, m0.F t j ≠ some (k + 1)) → m.H.ob t j = m0.H.ob t j ∧ m.F t j = m0.F t j
  io : Kp m0 σ0 m σ
  le : M ≤ L
section
variable {P : Program} {tab : List (Nat × TE)} {m0 m m' : MS} {M L s : Nat} {E : EnvV} {σ0 σ σ' : List Obj} {Ev : Env}
theorem ev_vt (h : ∀ t, VT m σ (E t) (Ev t)) : ∀ q, VT m σ (E.ev q) (Ev.ev q)
  | .tmp t => h t
  | .const v => constV_vt m σ v
  | .func f => .fn f [] [] .nil
  | .global g => .undef _
theorem put_vt (h : ∀ t, VT m σ (E t) (Ev t)) {v : V} {a : AV} (hv : VT m σ v a) (d : Option Nat) : ∀ t, VT m σ ((E.put d v) t) ((Ev.put d a) t) := by
  cases d with
  | none => exact h
  | some d =>
    intro t
    simp only [EnvV.put, EnvV.upd, Env.put, Env.upd]
    split
    · exact hv
    · exact h t
theorem upd_vt (h : ∀ t, VT m σ (E t) (Ev t)) {v : V} {d : Nat} (hv : VT m σ v (Ev d)) : ∀ t, VT m σ ((EnvV.upd E d v) t) (Ev t) := fun t => by
  simp only [EnvV.upd]
  split
  · rename_i e; rw [e]; exact hv
  · exact h t
theorem fr_free (hS : St m σ) (hf : Fr m m' s) {t : Nat} (ht : t ≠ s) (h : m.H t = []) : m'.H t = [] := by
  have hn : ∀ j, m'.H.ob t j = none := fun j => by
    rw [(hf t j ht fun k e => by
      obtain ⟨o, ho⟩ := hS.dom t j _ e
      simp [Heap.ob, h] at ho).1]
    simp [Heap.ob, h]
  have := hn 0
  simp only [Heap.ob] at this
  exact List.eq_nil_iff_length_eq_zero.2 (by
    have := List.getElem?_eq_none_iff.1 this
    omega)
theorem TR.noown (h : TR m0 σ0 M E σ L Ev m) {t : Nat} (ht : t < M) {j : Nat} (h0 : ∀ k, m0.F t j ≠ some (k + 1)) (k : Nat) : m.F t j ≠ some (k + 1) := by
  rw [(h.base t j ht h0).2]; exact h0 k
/-- A step of a body. -/
theorem TR.next (h : TR m0 σ0 M E σ L Ev m) {v : V} {a : AV} (hst : Step m σ s v a m' σ') (hs : M ≤ s) {L' : Nat} (hL : L ≤ L' ∨ (∀ t, L' ≤ t → m.H t = [])) (hsL : s < L') (hM : M ≤ L') (d : Option Nat) : TR m0 σ0 M (E.put d v) σ' L' (Ev.put d a) m' where
  st := hst.st
  env := put_vt (fun t => (h.env t).keep hst.kp) hst.vt d
  free := fun t ht => fr_free h.st hst.fr (by omega) (by
    rcases hL with hL | hL
    · exact h.free t (by omega)
    · exact hL t ht)
  base := fun t j ht h0 => by
    obtain ⟨b1, b2⟩ := h.base t j ht h0
    obtain ⟨f1, f2⟩ := hst.fr t j (by omega) (h.noown ht h0)
    exact ⟨f1.trans b1, f2.trans b2⟩
  io := h.io.trans hst.kp
  le := hM
theorem eqVs_sound {m : MS} {σ : List Obj} : ∀ {xs ys : List V} {as bs : List AV} {K : Bool → Prop}, VTL m σ xs as → VTL m σ ys bs → eqVs xs ys K → ∃ r, eqAs as bs = some r ∧ K r
  | [], [], _, _, _, .nil, .nil, h => ⟨true, rfl, h⟩
  | x :: xs, y :: ys, _, _, K, .cons _ a _ as h1 h2, .cons _ b _ bs k1 k2, h => by
    unfold eqVs at h
    split at h
    · contradiction
    · rename_i k n xs' k' n' ys' K' e1 e2
      injection e1 with e1 e3
      injection e2 with e2 e4
      subst e1 e2 e3 e4
      obtain ⟨hk, h⟩ := h
      obtain ⟨r, r1, r2⟩ := eqVs_sound h2 k2 h
      subst hk
      rw [h1.int_inv, k1.int_inv]
      exact ⟨_, by simp [eqAs, r1], r2⟩
    · exact h.elim
  | [], _ :: _, _, _, _, _, _, h => h.elim
  | _ :: _, [], _, _, _, _, _, h => by
    unfold eqVs at h
    split at h
    · contradiction
    · contradiction
    · exact h.elim
theorem opT2_sound {P : Program} {tab : List (Nat × TE)} {m : MS} {σ : List Obj} {s : Nat} {ρ : Operand → V} {ρv : Operand → AV} {K : V → List Obj → Prop} (hT : TabOk P tab) (hS : St m σ) (hs : m.H s = []) {op : Op} (hρ : ∀ q ∈ op.operands, VT m σ (ρ q) (ρv q)) (h : opT2 P tab σ ρ op K) : Snd P m σ s ρv op K := by
  unfold opT2 at h
  split at h
  · rename_i bo t x y u
    split at h
    · rename_i xs ys ex ey
      have hx := hρ x (by simp [Op.operands])
      have hy := hρ y (by simp [Op.operands])
      rw [ex] at hx
      rw [ey] at hy
      split at h
      · rename_i ty fs bs ht
        generalize hav : ρv x = av at hx
        generalize hbv : ρv y = bv at hy
        cases hx with
        | agg _ as hxs =>
          cases hy with
          | agg _ bs hys =>
            unfold eqSt at h
            obtain ⟨hok, h⟩ := h
            rw [hxs.length] at hok
            have hb : ∀ bo : BinOp, binA bo (ρv x) (ρv y) = none := fun bo => by rw [hav, hbv]; simp [binA]
            have heq : ∀ r, eqAs as bs = some r → eqA P t (ρv x) (ρv y) = some r := fun r hr => by
              rw [hav, hbv]; simp only [eqA, tab_d hT ht, hok, if_true, hr]
            split at h
            · obtain ⟨r, r1, r2⟩ := eqVs_sound hxs hys h
              exact Snd.same hS (eqA_neq (hb _) (heq r r1) (.inl rfl)) (by simp; exact VT.bool r) r2
            · obtain ⟨r, r1, r2⟩ := eqVs_sound hxs hys h
              exact Snd.same hS (eqA_neq (hb _) (heq r r1) (.inr rfl)) (by simp; exact VT.bool (!r)) r2
            · exact h.elim
      · exact h.elim
    · exact opT_sound hT hS hs hρ h
  · split at h
    · obtain ⟨τ, h⟩ := h.ex
      exact makeMap_sound hS hs h
    · exact h.elim
  · rename_i t mo k x
    exact put_sound hS hs (hρ mo (by simp [Op.operands])) (hρ k (by simp [Op.operands])) (hρ x (by simp [Op.operands])) h fun H => by simp only [opE]
  · rename_i t mo k x
    exact put_sound hS hs (hρ mo (by simp [Op.operands])) (hρ k (by simp [Op.operands])) (hρ x (by simp [Op.operands])) h fun H => by simp only [opE]
  · rename_i t mo k ok
    exact get_sound hS (hρ mo (by simp [Op.operands])) (hρ k (by simp [Op.operands])) h
  · exact opT_sound hT hS hs hρ h
theorem stepT_sound (hT : TabOk P tab) (hS : St m σ) (hE : ∀ t, VT m σ (E t) (Ev t)) (hs : m.H s = []) {o : Oper} {K : V → List Obj → Prop} (h : stepT P tab σ E o K) : stepV P s Ev m.H o fun av H' => ∃ v σ' m', m'.H = H' ∧ Step m σ s v av m' σ' ∧ K v σ' := by
  unfold stepT at h
  unfold stepV
  split at h
  · rename_i f as ts e
    rw [e]
    simp only
    have hf := ev_vt hE f
    split at h
    · rename_i n caps e2
      rw [e2] at hf
      generalize hav : Ev.ev f = av at hf
      cases hf with
      | fn _ _ cas hl =>
        simp only
        have hargs : VTL m σ (as.toList.map E.ev ++ caps) (as.toList.map Ev.ev ++ cas) := VTL.append (VTL.map fun q _ => ev_vt hE q) hl
        rcases h with h | h
        · exact callT_sound hS hs hargs h
        · exact callI_sound hS hs hargs h
    · exact h.elim
  · rename_i op hne
    split
    · rename_i f as ts e; exact (hne _ _ _ e).elim
    · obtain ⟨av, H', h1, v, σ', m', h2, h3, h4⟩ := opT2_sound (s := s) hT hS hs (fun q _ => ev_vt hE q) h
      exact ⟨_, h1, v, σ', m', h2, h3, h4⟩
/-- Guards. -/
theorem guardT_sound {ops : Array Oper} {o : Oper} {run skip : EnvV → Prop} (hE : ∀ t, VT m σ (E t) (Ev t)) (h : guardT ops E o run skip) : ∃ E', (∀ t, VT m σ (E' t) (Ev t)) ∧ ((guardA ops Ev o = some true ∧ run E') ∨ (guardA ops Ev o = some false ∧ skip E')) := by
  unfold guardT at h
  unfold guardA
  split at h
  · rename_i e
    rw [e]
    exact ⟨E, hE, .inl ⟨rfl, h⟩⟩
  · rename_i j want e
    rw [e]
    simp only
    split at h
    · rename_i e2
      rw [e2]
      exact ⟨E, hE, .inr ⟨rfl, h⟩⟩
    · rename_i d e2
      rw [e2]
      simp only
      have hd := hE d
      split at h
      · rename_i b e3
        rw [e3] at hd
        have hb := hd.bool_inv
        rw [hb] at hd ⊢
        simp only
        have up : ∀ c : Bool, b = c → ∀ t, VT m σ ((EnvV.upd E d (.val .bool c)) t) (Ev t) := fun c hc => upd_vt hE (by rw [hb, hc]; exact VT.bool c)
        split at h
        · cases hbb : b with
          | true => exact ⟨_, up true hbb, .inl ⟨rfl, h.t hbb⟩⟩
          | false => exact ⟨_, up false hbb, .inr ⟨rfl, h.f hbb⟩⟩
        · cases hbb : b with
          | true => exact ⟨_, up true hbb, .inr ⟨rfl, h.t hbb⟩⟩
          | false => exact ⟨_, up false hbb, .inl ⟨rfl, h.f hbb⟩⟩
      · rename_i e3
        rw [e3] at hd
        generalize Ev d = ed at hd
        cases hd with
        | tup _ _ hl =>
          cases hl
          exact ⟨E, hE, .inr ⟨rfl, h⟩⟩
      · exact h.elim
theorem seqT_sound (hT : TabOk P tab) {ops : Array Oper} : ∀ (l : List Oper) (i : Nat) {E : EnvV} {σ : List Obj} {Ev : Env} {m : MS} {K : EnvV → List Obj → Prop} {K' : Env → Heap → Prop}, TR m0 σ0 M E σ (L + i) Ev m → seqT P tab ops l E σ K →
    (∀ E' σ' Ev' m', TR m0 σ0 M E' σ' (L + i + l.length) Ev' m' → K E' σ' → K' Ev' m'.H) → seqL P ops L i l Ev m.H K'
  | [], i, E, σ, Ev, m, K, K', hR, h, hk => hk E σ Ev m hR h
  | o :: l, i, E, σ, Ev, m, K, K', hR, h, hk => by
    unfold seqT at h
    obtain ⟨E1, hE1, hg⟩ := guardT_sound hR.env h
    have hR1 : TR m0 σ0 M E1 σ (L + i) Ev m := ⟨hR.st, hE1, hR.free, hR.base, hR.io, hR.le⟩
    unfold seqL
    rcases hg with ⟨hg, h⟩ | ⟨hg, h⟩
    · rw [hg]
      simp only
      refine stepV_mono ?_ (stepT_sound (s := L + i) hT hR.st hE1 (hR.free _ (Nat.le_refl _)) h)
      rintro av H' ⟨v, σ', m', rfl, hst, h⟩
      replace h : seqT P tab ops l (E1.put o.dst v) σ' K := by
        have h := forceL_eq (force_eq h)
        cases hd : o.dst <;> rw [hd] at h <;> exact h
      exact seqT_sound hT l (i + 1) (hR1.next hst hR.le (L' := L + (i + 1)) (.inl (by omega)) (by omega) (by have := hR.le; omega) o.dst) h fun E' σ' Ev' m' r k => hk E' σ' Ev' m' (by rw [show L + i + (o :: l).length = L + (i + 1) + l.length by simp; omega]; exact r) k
    · rw [hg]
      simp only
      replace h : seqT P tab ops l (E1.put o.dst (.tup [])) σ K := by
        cases hd : o.dst <;> rw [hd] at h <;> exact h
      exact seqT_sound hT l (i + 1) ⟨hR.st, put_vt hE1 (.tup [] [] .nil) o.dst, fun t ht => hR.free t (by omega), hR.base, hR.io, by have := hR.le; omega⟩ h fun E' σ' Ev' m' r k => hk E' σ' Ev' m' (by rw [show L + i + (o :: l).length = L + (i + 1) + l.length by simp; omega]; exact r) k
end
end Go.Proofs.YtffiddkignmobaaDoorTv
end
section
/- TV, part Ua: what a call makes, told by itself: for calls in drawn regions. -/
namespace Go.Proofs.YtffiddkignmobaaDoorTv
open Go.Proofs.YtffiddkignmobaaDoorVe
/-- A result and the objects that come with it, in a slot of their own. -/
def Made (s : Nat) (rs : V) (σ1 : List Obj) (av : AV) (obs : List Ob) : Prop := ∃ m' : MS, (m'.H = fun t => if t = s then obs else []) ∧ St m' σ1 ∧ (∀ t j, m'.F t j ≠ some 0) ∧ VT m' σ1 rs av
theorem heap_ext {H H' : Heap} {t : Nat} (h : ∀ j, H'.ob t j = H.ob t j) : H' t = H t := List.ext_getElem? fun j => h j
/-- A state without frozen objects, seen in another heap. -/
theorem St.move {m : MS} {σ : List Obj} {H : Heap} (hS : St m σ) (h0 : ∀ t j, m.F t j ≠ some 0) (hH : ∀ t j k, m.F t j = some k → H.ob t j = m.H.ob t j) : St ⟨m.F, H, m.ι⟩ σ ∧ Kp m σ ⟨m.F, H, m.ι⟩ σ := by
  have kp : Kp m σ ⟨m.F, H, m.ι⟩ σ := ⟨fun t j h => absurd h (h0 t j), Nat.le_refl _, fun id κ hid hk => ⟨hk, rfl, fun o ho => ⟨o, by
    obtain ⟨h, _⟩ := OT.owner hS hk
    rcases h with h | h
    · show H.ob _ _ = _
      rw [hH _ _ _ h]; exact ho
    · exact absurd h (h0 _ _), rfl⟩⟩⟩
  refine ⟨⟨fun id o ho => (hS.obj id o ho).keep kp rfl fun t j h => ⟨h, hH _ _ _ h⟩, fun t j k h => ?_⟩, kp⟩
  obtain ⟨o, ho⟩ := hS.dom t j k h
  exact ⟨o, by show H.ob t j = _; rw [hH _ _ _ h]; exact ho⟩
section
variable {P : Program} {m : MS} {σ : List Obj} {s : Nat}
theorem made_of (hS : St m σ) {f : Nat} {vs cargs : List V} {as : List AV} (hv : VTL m σ vs as) {rs : V} {σ1 : List Obj} (hc : ConT P f cargs rs σ1) (hfit : argsFit σ vs cargs) (hp : (plainV rs && σ1.all Obj.plain) = true) {H2 : Heap} (hs : H2 s = []) (hH : ∀ t j k, m.F t j = some k → H2.ob t j = m.H.ob t j) :
    CallV P f as H2 s fun av H' => ∃ obs, Made s rs σ1 av obs ∧ H' = H2.add s obs := by
  obtain ⟨hen, hc⟩ := hc
  simp only [Bool.and_eq_true] at hp
  have h1 := argsFit_sound (m2 := coverM m) hS rfl (fun t j k e => by simp [coverM, e]) hfit hv
  have h2 := VTL.keep (m := coverM m) (m' := ⟨fun t j => (m.F t j).map fun _ => 0, H2, m.ι⟩) (σ := []) (σ' := []) ⟨fun t j g => ⟨g, by
      have g' : (coverM m).F t j = some 0 := g
      simp only [coverM] at g'
      cases h : m.F t j with
      | none => simp [h] at g'
      | some k => exact hH t j k h⟩, Nat.le_refl _, fun id κ hid => by simp at hid⟩ h1
  have hno : ∀ t j k, (m.F t j).map (fun _ => 0) ≠ some (k + 1) := fun t j k e => by cases h : m.F t j <;> simp [h] at e
  refine (hc ⟨fun t j => (m.F t j).map fun _ => 0, H2, m.ι⟩ s as hno hs ⟨fun id o ho => by simp at ho, fun t j k e => ?_⟩ h2).mono fun av H' ⟨m1, e1, g1, g2, g3, g4⟩ => ?_
  · simp only at e ⊢
    cases h : m.F t j with
    | none => simp [h] at e
    | some k' =>
      obtain ⟨o, ho⟩ := hS.dom t j k' h
      exact ⟨o, by rw [hH t j k' h]; exact ho⟩
  · have hH' : ∀ t, t ≠ s → H' t = H2 t := fun t ht => heap_ext fun j => by rw [← e1]; exact (g3 t j ht (hno t j)).1
    have ho : ∀ t j k, m1.F t j = some (k + 1) → t = s := fun t j k e => Classical.byContradiction fun c => by
      have := (g3 t j c (hno t j)).2
      rw [this] at e
      exact hno t j k e
    let m2 : MS := ⟨fun t j => if m1.F t j = some 0 then none else m1.F t j, m1.H, m1.ι⟩
    have hown : ∀ t j k, m1.F t j = some (k + 1) → m2.F t j = some (k + 1) := fun t j k e => by simp [m2, e]
    have hF2 : ∀ t j k, m2.F t j = some k → m1.F t j = some k ∧ t = s ∧ k ≠ 0 := fun t j k e => by
      simp only [m2] at e
      split at e
      · cases e
      · rename_i h0
        cases k with
        | zero => exact absurd e h0
        | succ k => exact ⟨e, ho t j k e, by omega⟩
    have hS2 : St m2 σ1 := ⟨fun id o ho => OT.plain (m := m1) (m2 := m2) rfl rfl hown (List.all_eq_true.1 hp.2 o (List.mem_of_getElem? ho)) (g1.obj id o ho), fun t j k e => g1.dom t j k (hF2 t j k e).1⟩
    have h0 : ∀ t j, m2.F t j ≠ some 0 := fun t j e => (hF2 t j 0 e).2.2 rfl
    obtain ⟨k1, k2⟩ := hS2.move (H := fun t => if t = s then H' s else []) h0 fun t j k e => by
      have ht := (hF2 t j k e).2.1
      subst ht
      show Heap.ob _ _ _ = m1.H.ob _ _
      rw [e1]; simp [Heap.ob]
    refine ⟨H' s, ⟨_, rfl, k1, h0, (VT.plain (m := m1) (m2 := m2) rfl rfl g4 hp.1).keep k2⟩, ?_⟩
    rw [add_eq hs]
    funext t
    by_cases ht : t = s
    · subst ht; simp [Heap.upd]
    · simp [Heap.upd, ht, hH' t ht]
theorem made_step (hS : St m σ) (hs : m.H s = []) {rs : V} {σ1 : List Obj} {av : AV} {obs : List Ob} (h : Made s rs σ1 av obs) : ∃ m', m'.H = m.H.add s obs ∧ Step m σ s (rs.sh σ.length) av m' (σ ++ σ1.map (Obj.sh σ.length)) ∧ ∀ id κ, σ.length ≤ id → kind (σ ++ σ1.map (Obj.sh σ.length)) id = some κ → (m'.ι id).1 = s := by
  obtain ⟨m1, e1, g1, g2, g3⟩ := h
  have hts : ∀ t j k, m1.F t j = some k → t = s := fun t j k e => Classical.byContradiction fun c => by
    obtain ⟨o, ho⟩ := g1.dom t j k e
    rw [e1] at ho
    simp [Heap.ob, c] at ho
  obtain ⟨k1, k2⟩ := g1.move (H := m.H.add s obs) g2 fun t j k e => by
    have ht := hts t j k e
    subst ht
    rw [e1, add_eq hs]
    simp [Heap.ob, Heap.upd]
  have hF0 : ∀ t j, t ≠ s → (MS.mk m1.F (m.H.add s obs) m1.ι).F t j = some 0 → m.F t j = some 0 := fun t j _ e => absurd e (g2 t j)
  obtain ⟨r1, r2, r3⟩ := join_step (m' := ⟨m1.F, m.H.add s obs, m1.ι⟩) hS hs k1 (fun t j ht => by simp [Heap.ob, add_other ht]) hF0 (fun t j k ht e => ht (hts t j _ e))
  refine ⟨joinM m ⟨m1.F, m.H.add s obs, m1.ι⟩ s σ.length, rfl, ⟨r1, r2, r3, VT.shift hF0 (g3.keep k2)⟩, fun id κ hid hk => ?_⟩
  have e : id = σ.length + (id - σ.length) := by omega
  rw [e, kind_sh] at hk
  obtain ⟨h, _⟩ := OT.owner g1 hk
  have hF : m1.F (m1.ι (id - σ.length)).1 (m1.ι (id - σ.length)).2 = some (id - σ.length + 1) := by
    rcases h with h | h
    · exact h
    · exact absurd h (g2 _ _)
  show (if id < σ.length then m.ι id else m1.ι (id - σ.length)).1 = s
  rw [if_neg (by omega)]
  exact hts _ _ _ hF
end
def kz (σ1 : List Obj) (id : Nat) : Nat := match kind σ1 id with
  | some (some t) => t.z
  | _ => 0
mutual
def witV (s : Nat) (σ1 : List Obj) : V → AV
  | .val t x => (encC t x).headD .undef
  | .nil _ => .nil
  | .own id off n => .sl s id 0 (off * kz σ1 id) n
  | .pel id i => .ptr s id 0 (i * kz σ1 id)
  | .pcell id k => .ptr s id 0 k
  | .nilp => .nilp
  | .agg cs => .agg (witVs s σ1 cs)
  | .tup cs => .tup (witVs s σ1 cs)
  | _ => .undef
def witVs (s : Nat) (σ1 : List Obj) : List V → List AV
  | [] => []
  | v :: vs => witV s σ1 v :: witVs s σ1 vs
end
def witO (s : Nat) (σ1 : List Obj) : Obj → Ob
  | .arr t l _ => ⟨0, t.z, (l.map (encC t)).flatten⟩
  | .vars vs => ⟨0, 0, witVs s σ1 vs⟩
  | _ => ⟨0, 1, []⟩
theorem witO_g (s : Nat) (σ1 : List Obj) (o : Obj) : (witO s σ1 o).g = 0 := by cases o <;> rfl
def witM (s : Nat) (σ1 : List Obj) : MS := ⟨fun t j => if t = s ∧ j < σ1.length then some (j + 1) else none, fun t => if t = s then σ1.map (witO s σ1) else [], fun id => (s, id)⟩
theorem wit_at {s : Nat} {σ1 : List Obj} {id : Nat} : (witM s σ1).at id = σ1[id]?.map (witO s σ1) := by
  simp [witM, MS.at, Heap.ob]
mutual
theorem wit_vt (s : Nat) (σ1 : List Obj) : ∀ v : V, okW σ1.length v = true → VT (witM s σ1) σ1 v (witV s σ1 v)
  | .val t x, h => by
    simp only [okW, Bool.and_eq_true] at h
    have hs := enc_sh (witM s σ1).fz (witM s σ1).H x h.1
    cases t <;> simp only [Ty.isRec, Ty.flat, Bool.false_eq_true, Bool.not_true, and_false, false_and] at h <;> (unfold witV; exact .val _ _ _ hs)
  | .nil t, _ => by unfold witV; exact .nil t
  | .nilp, _ => by unfold witV; exact .nilp
  | .own id off n, h => by
    unfold witV
    simp only [okW, decide_eq_true_eq] at h
    exact .own _ _ _ _ h fun t ht => ⟨witO s σ1 (σ1[id]'h), by rw [wit_at, List.getElem?_eq_getElem h]; rfl, by rw [witO_g]; simp [kz, ht, witM]⟩
  | .pel id i, h => by
    unfold witV
    simp only [okW, decide_eq_true_eq] at h
    exact .pel _ _ _ h fun t ht => ⟨witO s σ1 (σ1[id]'h), by rw [wit_at, List.getElem?_eq_getElem h]; rfl, by rw [witO_g]; simp [kz, ht, witM]⟩
  | .pcell id k, h => by
    unfold witV
    simp only [okW, decide_eq_true_eq] at h
    exact .pcell _ _ _ h fun ht => ⟨witO s σ1 (σ1[id]'h), by rw [wit_at, List.getElem?_eq_getElem h]; rfl, by rw [witO_g]; rfl⟩
  | .agg cs, h => by unfold witV; exact .agg _ _ (wit_vts s σ1 cs (by simpa [okW] using h))
  | .tup cs, h => by unfold witV; exact .tup _ _ (wit_vts s σ1 cs (by simpa [okW] using h))
  | .undef, h => by simp [okW] at h
  | .pv _, h => by simp [okW] at h
  | .fn _ _, h => by simp [okW] at h
  | .mp _, h => by simp [okW] at h
theorem wit_vts (s : Nat) (σ1 : List Obj) : ∀ v : List V, okWs σ1.length v = true → VTL (witM s σ1) σ1 v (witVs s σ1 v)
  | [], _ => by unfold witVs; exact .nil
  | v :: vs, h => by
    simp only [okWs, Bool.and_eq_true] at h
    unfold witVs
    exact .cons _ _ _ _ (wit_vt s σ1 v h.1) (wit_vts s σ1 vs h.2)
end
theorem okOs_get {n : Nat} : ∀ {l : List Obj}, okOs n l → ∀ {i : Nat} {o : Obj}, l[i]? = some o → okO n o
  | o :: l, h, 0, o', e => by simp at e; subst e; exact h.1
  | o :: l, h, i + 1, o', e => okOs_get h.2 (by simpa using e)
/-- There is such a thing. -/
theorem made_ne (s : Nat) {rs : V} {σ1 : List Obj} (h1 : okW σ1.length rs = true) (h2 : okOs σ1.length σ1) : ∃ av obs, Made s rs σ1 av obs := by
  refine ⟨witV s σ1 rs, σ1.map (witO s σ1), witM s σ1, rfl, ⟨fun id o ho => ?_, fun t j k e => ?_⟩, fun t j e => ?_, wit_vt s σ1 rs h1⟩
  · have hk := okOs_get h2 ho
    have hid : id < σ1.length := (List.getElem?_eq_some_iff.1 ho).1
    have hF : (witM s σ1).F s id = some (id + 1) := by simp [witM, hid]
    cases o with
    | gone => trivial
    | mpt t l => exact hk.elim
    | frz t l => exact hk.elim
    | hole t l i v => exact hk.elim
    | vars vs => exact ⟨0, ⟨0, rfl⟩, witVs s σ1 vs, by rw [wit_at, ho]; rfl, hF, wit_vts s σ1 vs hk⟩
    | arr t l u =>
      cases u with
      | false => exact hk.elim
      | true =>
        obtain ⟨hf, hl⟩ := hk
        refine ⟨_, [(s, id)], by rw [wit_at, ho]; rfl, .inr ⟨s, id, 0, l.map fun x => (encC t x, []), rfl, ?_, ?_, hl, ?_⟩, by simp, fun p hp => ?_⟩
        · show (witM s σ1).at id = _
          rw [wit_at, ho]
          simp [witO, Function.comp_def]
        · simp [Function.comp_def]
        · refine All2.map_right _ |>.2 ?_
          clear hl ho
          induction l with
          | nil => trivial
          | cons x l ih => exact ⟨(enc_sh (fun _ _ => True) (witM s σ1).H x hf).ow hf, ih⟩
        · simp at hp; subst hp; exact hF
  · simp only [witM] at e ⊢
    split at e
    · rename_i hc
      simp only [Heap.ob, hc.1, if_true, List.getElem?_map, List.getElem?_eq_getElem hc.2]
      exact ⟨_, rfl⟩
    · cases e
  · simp only [witM] at e
    split at e
    · injection e with e; omega
    · cases e
end Go.Proofs.YtffiddkignmobaaDoorTv
end
section
/- TV, part V: drawn regions and code are sound. -/
namespace Go.Proofs.YtffiddkignmobaaDoorTv
open Go.Proofs.YtffiddkignmobaaDoorVe
section
variable {P : Program} {tab : List (Nat × TE)} {m0 m m' : MS} {M L s i : Nat} {E : EnvV} {σ0 σ σ' : List Obj} {Ev : Env} {ops : Array Oper} {A : Nat → Nat} {al : Al}
/-- The state inside a drawn region: what was made lies in the slots al. -/
structure TD (ms : MS) (ops : Array Oper) (m0 : MS) (σ0 : List Obj) (M : Nat) (E : EnvV) (σ : List Obj) (L i : Nat) (al : Al) (Ev : Env) (m : MS) : Prop where
  s_le : ∀ t j k, ms.F t j = some k → t < L
  s_kp : ∀ t j, ms.F t j = some 0 → m.F t j = some 0 ∧ m.H.ob t j = ms.H.ob t j
  start : ∀ t, cleanT ops i t = true → closV (E t) = true → VT ms [] (E t) (Ev t)
  own : ∀ t, cleanT ops i t = true → ∀ id off n, E t = .own id off n → id < σ.length ∧ ∀ τ, kind σ id = some (some τ) → (m.ι id).1 < L
  st : St m σ
  env : ∀ t, VT m σ (E t) (Ev t)
  occ : ∀ t, L ≤ t → m.H t ≠ [] → ∃ k ∈ al, t = L + k.1
  lt : ∀ k ∈ al, k.1 < i
  rng : ∀ k ∈ al, k.2.2 ≤ σ.length ∧ ∀ id κ, k.2.1 ≤ id → id < k.2.2 → kind σ id = some κ → (m.ι id).1 = L + k.1
  base : ∀ t j, t < M → (∀ k, m0.F t j ≠ some (k + 1)) → m.H.ob t j = m0.H.ob t j ∧ m.F t j = m0.F t j
  io : Kp m0 σ0 m σ
  le : M ≤ L
theorem TD.free {ms : MS} (h : TD ms ops m0 σ0 M E σ L i al Ev m) : m.H (L + i) = [] := Classical.byContradiction fun c => by
  obtain ⟨k, hk, e⟩ := h.occ (L + i) (by omega) c
  have := h.lt k hk
  omega
theorem TD.hide {ms : MS} (h : TD ms ops m0 σ0 M E σ L i al Ev m) (hs : seen A al i = true) : hide L (A i) i m.H = m.H := by
  funext t
  unfold Go.Proofs.YtffiddkignmobaaDoorVe.hide
  split
  · rename_i e; rw [e]; exact h.free.symm
  · split
    · rfl
    · rename_i hv
      refine Classical.byContradiction fun c => hv ?_
      unfold vis
      rcases Nat.lt_or_ge t L with h1 | h1
      · simp [h1]
      · obtain ⟨k, hk, e⟩ := h.occ t h1 (fun e => c e.symm)
        have := List.all_eq_true.1 hs k hk
        subst e
        simp [this]
theorem makes_op {ρ : Operand → AV} {H : Heap} {op : Op} (hp : makes op = true) {r : AV × Heap} (h : opE P s ρ H op = some r) : ∃ l, r.2 = H.upd s l ∧ ∀ H2, opE P s ρ H2 op = some (r.1, H2.upd s l) := by
  cases op with
  | makeSlice t l c =>
    simp only [opE] at h ⊢
    split at h
    · rename_i h1 h2 h3
      split at h
      · rename_i h4
        split at h
        · rename_i hc
          injection h with h
          subst h
          exact ⟨_, rfl, fun H2 => by (rw [if_pos hc])⟩
        · cases h
      · cases h
    · cases h
  | _ =>
    first
    | (simp [makes] at hp; done)
    | (simp only [opE] at h ⊢
       (repeat' split at h)
       all_goals first | (cases h; done) | (simp only [Option.some.injEq] at h; subst h; first | exact ⟨_, rfl, fun _ => rfl⟩ | exact ⟨_, rfl, fun _ => by simp_all⟩))
theorem leaves_slice {ρ : Operand → AV} {H : Heap} {t : TypeId} {a : Operand} {lo hi mx : Option Operand} {r : AV × Heap} (h : opE P s ρ H (.slice t a lo hi mx) = some r) : r.2 = H := by
  simp only [opE] at h
  repeat' split at h
  all_goals first | (cases h; done) | (simp only [Option.some.injEq] at h; subst h; rfl)
theorem leaves_load {ρ : Operand → AV} {H : Heap} {t : TypeId} {a : Operand} {r : AV × Heap} (h : opE P s ρ H (.load t a) = some r) : r.2 = H := by
  simp only [opE] at h
  repeat' split at h
  all_goals first | (cases h; done) | (simp only [Option.some.injEq] at h; subst h; rfl)
mutual
theorem scal_vt (m : MS) (σ : List Obj) : ∀ v : V, scalV v = true → VT m σ v (encV v)
  | .val t x, h => by
    simp only [scalV, Bool.and_eq_true] at h
    have hs := enc_sh m.fz m.H x h.1
    cases t <;> simp only [Ty.isRec, Ty.flat, Bool.false_eq_true, Bool.not_true, and_false, false_and] at h <;> (unfold encV; exact .val _ _ _ hs)
  | .nil t, _ => by unfold encV; exact .nil t
  | .agg cs, h => by unfold encV; exact .agg _ _ (scals_vt m σ cs (by simpa [scalV] using h))
  | .tup cs, h => by unfold encV; exact .tup _ _ (scals_vt m σ cs (by simpa [scalV] using h))
  | .undef, h => by simp [scalV] at h
  | .own .., h => by simp [scalV] at h
  | .pel .., h => by simp [scalV] at h
  | .pcell .., h => by simp [scalV] at h
  | .mp .., h => by simp [scalV] at h
  | .pv .., h => by simp [scalV] at h
  | .fn .., h => by simp [scalV] at h
  | .nilp, h => by simp [scalV] at h
theorem scals_vt (m : MS) (σ : List Obj) : ∀ v : List V, scalVs v = true → VTL m σ v (encVs v)
  | [], _ => by unfold encVs; exact .nil
  | v :: vs, h => by
    simp only [scalVs, Bool.and_eq_true] at h
    unfold encVs
    exact .cons _ _ _ _ (scal_vt m σ v h.1) (scals_vt m σ vs h.2)
end
mutual
theorem scal_enc : ∀ {v : V} {a : AV}, scalV v = true → VT m σ v a → a = encV v
  | .val t x, a, h, hv => by
    simp only [scalV, Bool.and_eq_true] at h
    cases hv with
    | val _ _ _ hs =>
      have := hs.enc h.1
      simp [encV, ← this]
  | .nil t, a, _, hv => by cases hv; simp [encV]
  | .agg cs, a, h, hv => by
    simp only [scalV] at h
    cases hv with
    | agg _ as hl => simp [encV, scals_enc h hl]
  | .tup cs, a, h, hv => by
    simp only [scalV] at h
    cases hv with
    | tup _ as hl => simp [encV, scals_enc h hl]
  | .undef, _, h, _ => by simp [scalV] at h
  | .own .., _, h, _ => by simp [scalV] at h
  | .pel .., _, h, _ => by simp [scalV] at h
  | .pcell .., _, h, _ => by simp [scalV] at h
  | .mp .., _, h, _ => by simp [scalV] at h
  | .pv .., _, h, _ => by simp [scalV] at h
  | .fn .., _, h, _ => by simp [scalV] at h
  | .nilp, _, h, _ => by simp [scalV] at h
theorem scals_enc : ∀ {v : List V} {a : List AV}, scalVs v = true → VTL m σ v a → a = encVs v
  | [], a, _, hv => by cases hv; simp [encVs]
  | v :: vs, a, h, hv => by
    simp only [scalVs, Bool.and_eq_true] at h
    cases hv with
    | cons _ b _ as h1 h2 => simp [encVs, scal_enc h.1 h1, scals_enc h.2 h2]
end
theorem scal_fit1 {σ' : List Obj} : ∀ {v w : V}, scalV v = true → argFit1 σ v w → argFit1 σ' v w := fun {v w} hs h => by
  unfold argFit1 at h ⊢
  split at h
  · unfold Rd at h ⊢
    split at h
    · exact h
    · exact h
    · simp [scalV] at hs
    · exact h.elim
  · exact h
  · exact h
  · exact h
  · exact h
  · exact h.elim
theorem scal_fits1 {σ' : List Obj} : ∀ {vs ws : List V}, scalVs vs = true → argsFit1 σ vs ws → argsFit1 σ' vs ws
  | [], [], _, _ => trivial
  | v :: vs, w :: ws, hs, h => by
    simp only [scalVs, Bool.and_eq_true] at hs
    exact ⟨scal_fit1 hs.1 h.1, scal_fits1 hs.2 h.2⟩
  | [], _ :: _, _, h => h.elim
  | _ :: _, [], _, h => h.elim
theorem scal_fit {σ' : List Obj} : ∀ {vs ws : List V}, scalVs vs = true → argsFit σ vs ws → argsFit σ' vs ws
  | [], [], _, _ => trivial
  | v :: vs, w :: ws, hs, h => by
    simp only [scalVs, Bool.and_eq_true] at hs
    refine ⟨?_, scal_fit hs.2 h.2⟩
    have h1 := h.1
    unfold argFit at h1 ⊢
    split at h1
    · split at h1
      · exact scal_fits1 (by simpa [scalV] using hs.1) h1
      · exact h1.elim
    · exact scal_fit1 hs.1 h1
  | [], _ :: _, _, h => h.elim
  | _ :: _, [], _, h => h.elim
/-- Values without objects do not look at the state. -/
theorem scals_move {m2 : MS} {σ2 : List Obj} {vs : List V} {as : List AV} (h : scalVs vs = true) (hv : VTL m σ vs as) : VTL m2 σ2 vs as := by
  rw [scals_enc h hv]; exact scals_vt m2 σ2 vs h
theorem callS_sound (hS : St m σ) {f : Nat} {vs cargs : List V} {as : List AV} (hv : VTL m σ vs as) {rs : V} (hcon : ConS P f cargs rs) (hfit : argsFit σ vs cargs) (H2 : Heap) (s : Nat) (hH : ∀ t j k, m.F t j = some k → H2.ob t j = m.H.ob t j) : CallV P f as H2 s fun av H' => av = encV rs ∧ H' = H2 := by
  obtain ⟨hsc, hen, hc⟩ := hcon
  by_cases hs : H2 s = []
  case neg => exact ⟨hen, fun x vals M _ _ h => absurd h hs⟩
  refine hc ⟨fun t j => (m.F t j).map fun _ => 0, H2, m.ι⟩ s as (fun t j k e => by simp only at e; cases h : m.F t j <;> simp [h] at e) hs ⟨fun id o ho => by simp at ho, fun t j k e => ?_⟩ ?_
  · simp only at e ⊢
    cases h : m.F t j with
    | none => simp [h] at e
    | some k' =>
      obtain ⟨o, ho⟩ := hS.dom t j k' h
      exact ⟨o, by rw [hH t j k' h]; exact ho⟩
  · have h1 := argsFit_sound (m2 := coverM m) hS rfl (fun t j k e => by simp [coverM, e]) hfit hv
    exact VTL.keep (m := coverM m) (m' := ⟨fun t j => (m.F t j).map fun _ => 0, H2, m.ι⟩) (σ := []) (σ' := []) ⟨fun t j g => ⟨g, by
      have g' : (coverM m).F t j = some 0 := g
      simp only [coverM] at g'
      cases h : m.F t j with
      | none => simp [h] at g'
      | some k => exact hH t j k h⟩, Nat.le_refl _, fun id κ hid => by simp at hid⟩ h1
mutual
theorem clos_vt {m2 : MS} {σ2 : List Obj} (hk : Keep m.fz m.H m2.fz m2.H) : ∀ {v : V} {a : AV}, closV v = true → VT m σ v a → VT m2 σ2 v a
  | .val t x, a, _, hv => by
    cases hv with
    | val _ _ _ hs => exact .val t x a (hs.keep hk)
  | .nil t, a, _, hv => by cases hv; exact .nil t
  | .agg cs, a, h, hv => by
    simp only [closV] at h
    cases hv with
    | agg _ as hl => exact .agg _ _ (clos_vts hk h hl)
  | .tup cs, a, h, hv => by
    simp only [closV] at h
    cases hv with
    | tup _ as hl => exact .tup _ _ (clos_vts hk h hl)
  | .undef, _, h, _ => by simp [closV] at h
  | .own .., _, h, _ => by simp [closV] at h
  | .pel .., _, h, _ => by simp [closV] at h
  | .pcell .., _, h, _ => by simp [closV] at h
  | .mp .., _, h, _ => by simp [closV] at h
  | .pv .., _, h, _ => by simp [closV] at h
  | .fn .., _, h, _ => by simp [closV] at h
  | .nilp, _, h, _ => by simp [closV] at h
theorem clos_vts {m2 : MS} {σ2 : List Obj} (hk : Keep m.fz m.H m2.fz m2.H) : ∀ {v : List V} {a : List AV}, closVs v = true → VTL m σ v a → VTL m2 σ2 v a
  | [], a, _, hv => by cases hv; exact .nil
  | v :: vs, a, h, hv => by
    simp only [closVs, Bool.and_eq_true] at h
    cases hv with
    | cons _ b _ as h1 h2 => exact .cons _ _ _ _ (clos_vt hk h.1 h1) (clos_vts hk h.2 h2)
end
theorem clos_fit1 {σ' : List Obj} : ∀ {v w : V}, closV v = true → argFit1 σ v w → argFit1 σ' v w := fun {v w} hs h => by
  unfold argFit1 at h ⊢
  split at h
  · unfold Rd at h ⊢
    split at h
    · exact h
    · exact h
    · simp [closV] at hs
    · exact h.elim
  · exact h
  · exact h
  · exact h
  · exact h
  · exact h.elim
theorem clos_fits1 {σ' : List Obj} : ∀ {vs ws : List V}, closVs vs = true → argsFit1 σ vs ws → argsFit1 σ' vs ws
  | [], [], _, _ => trivial
  | v :: vs, w :: ws, hs, h => by
    simp only [closVs, Bool.and_eq_true] at hs
    exact ⟨clos_fit1 hs.1 h.1, clos_fits1 hs.2 h.2⟩
  | [], _ :: _, _, h => h.elim
  | _ :: _, [], _, h => h.elim
theorem clos_fit {σ' : List Obj} : ∀ {vs ws : List V}, closVs vs = true → argsFit σ vs ws → argsFit σ' vs ws
  | [], [], _, _ => trivial
  | v :: vs, w :: ws, hs, h => by
    simp only [closVs, Bool.and_eq_true] at hs
    refine ⟨?_, clos_fit hs.2 h.2⟩
    have h1 := h.1
    unfold argFit at h1 ⊢
    split at h1
    · split at h1
      · exact clos_fits1 (by simpa [closV] using hs.1) h1
      · exact h1.elim
    · exact clos_fit1 hs.1 h1
  | [], _ :: _, _, h => h.elim
  | _ :: _, [], _, h => h.elim
theorem clean_vt {ms : MS} (h : ∀ t, cleanT ops i t = true → closV (E t) = true → VT ms [] (E t) (Ev t)) {q : Operand} (hq : cleanQ ops i q = true) (hc : closV (E.ev q) = true) : VT ms [] (E.ev q) (Ev.ev q) := by
  cases q with
  | tmp t => exact h t hq hc
  | const v => exact constV_vt ms [] v
  | func f => exact .fn f [] [] .nil
  | global g => exact .undef _
theorem clean_vts {ms : MS} (h : ∀ t, cleanT ops i t = true → closV (E t) = true → VT ms [] (E t) (Ev t)) : ∀ {l : List Operand}, l.all (cleanQ ops i) = true → closVs (l.map E.ev) = true → VTL ms [] (l.map E.ev) (l.map Ev.ev)
  | [], _, _ => .nil
  | q :: l, h1, h2 => by
    simp only [List.all_cons, Bool.and_eq_true] at h1
    simp only [List.map_cons, closVs, Bool.and_eq_true] at h2
    exact .cons _ _ _ _ (clean_vt h h1.1 h2.1) (clean_vts h h1.2 h2.2)
theorem guardT_sound2 {o : Oper} {run skip : EnvV → Prop} (hE : ∀ t, VT m σ (E t) (Ev t)) (h : guardT ops E o run skip) : ∃ E', (∀ t, VT m σ (E' t) (Ev t)) ∧ (∀ t, E' t = E t ∨ ∃ b, E' t = .val .bool b ∧ Ev t = .bool b) ∧ ((guardA ops Ev o = some true ∧ run E') ∨ (guardA ops Ev o = some false ∧ skip E')) := by
  unfold guardT at h
  unfold guardA
  split at h
  · rename_i e
    rw [e]
    exact ⟨E, hE, fun _ => .inl rfl, .inl ⟨rfl, h⟩⟩
  · rename_i j want e
    rw [e]
    simp only
    split at h
    · rename_i e2
      rw [e2]
      exact ⟨E, hE, fun _ => .inl rfl, .inr ⟨rfl, h⟩⟩
    · rename_i d e2
      rw [e2]
      simp only
      have hd := hE d
      split at h
      · rename_i b e3
        rw [e3] at hd
        have hb := hd.bool_inv
        have up : ∀ c : Bool, b = c → ∀ t, VT m σ ((EnvV.upd E d (.val .bool c)) t) (Ev t) := fun c hc => upd_vt hE (by rw [hb, hc]; exact VT.bool c)
        have same : ∀ c : Bool, b = c → ∀ t, (EnvV.upd E d (.val .bool c)) t = E t ∨ ∃ b, (EnvV.upd E d (.val .bool c)) t = .val .bool b ∧ Ev t = .bool b := fun c hc t => by
          by_cases e : t = d
          · right; subst e; exact ⟨c, by simp [EnvV.upd], by rw [hb, hc]⟩
          · left; simp [EnvV.upd, e]
        rw [hb] at hd ⊢
        simp only
        split at h
        · cases hbb : b with
          | true => exact ⟨_, up true hbb, same true hbb, .inl ⟨rfl, h.t hbb⟩⟩
          | false => exact ⟨_, up false hbb, same false hbb, .inr ⟨rfl, h.f hbb⟩⟩
        · cases hbb : b with
          | true => exact ⟨_, up true hbb, same true hbb, .inr ⟨rfl, h.t hbb⟩⟩
          | false => exact ⟨_, up false hbb, same false hbb, .inl ⟨rfl, h.f hbb⟩⟩
      · rename_i e3
        rw [e3] at hd
        generalize Ev d = ed at hd
        cases hd with
        | tup _ _ hl =>
          cases hl
          exact ⟨E, hE, fun _ => .inl rfl, .inr ⟨rfl, h⟩⟩
      · exact h.elim
theorem load_kind {e : TE} {id ix : Nat} {K : V → List Obj → Prop} (h : loadT σ e (.pel id ix) K) : ∃ τ, kind σ id = some (some τ) := by
  unfold loadT at h
  simp only at h
  split at h
  · rename_i t l e1
    exact ⟨_, by unfold kind; rw [e1]; rfl⟩
  · rename_i t l j v e1
    exact ⟨_, by unfold kind; rw [e1]; rfl⟩
  · unfold loadT0 at h
    simp only at h
    split at h
    · rename_i e1; exact ⟨_, by unfold kind; rw [e1]; rfl⟩
    · rename_i e1; exact ⟨_, by unfold kind; rw [e1]; rfl⟩
    · exact h.elim
theorem constV_own (v : Value) {id off n : Nat} : constV v ≠ .own id off n := by
  unfold constV
  split <;> simp
theorem slice_at {s0 : Nat} {H H2 : Heap} {t : TypeId} {q : Operand} {lo hi mx : Option Operand} {ρ : Operand → AV} {r : AV × Heap} (ho : ∀ s' j g off n, ρ q = .sl s' j g off n → H.ob s' j = H2.ob s' j) (h : opE P s0 ρ H (.slice t q lo hi mx) = some r) : opE P s0 ρ H2 (.slice t q lo hi mx) = some (r.1, H2) := by
  simp only [opE] at h ⊢
  split at h
  · rename_i b e1 e2
    split at h
    · split at h
      · rename_i hc
        simp only [Option.some.injEq] at h
        subst h
        simp [hc]
      · cases h
    · cases h
  · rename_i e1 e2
    have h3 := ho _ _ _ _ _ e2
    rw [← h3]
    split at h
    · split at h
      · rename_i hc
        simp only [Option.some.injEq] at h
        subst h
        simp [hc]
      · cases h
    · cases h
  · rename_i e1 e2
    split at h
    · split at h
      · rename_i hc
        simp only [Option.some.injEq] at h
        subst h
        simp [hc]
      · cases h
    · cases h
  · rename_i e1 e2
    split at h
    · split at h
      · rename_i hc
        simp only [Option.some.injEq] at h
        subst h
        rw [if_pos hc]
      · cases h
    · cases h
  · cases h
theorem load_at {s0 : Nat} {H H2 H' : Heap} {t : TypeId} {q : Operand} {ρ : Operand → AV} {s' j g off : Nat} {av : AV} (e : ρ q = .ptr s' j g off) (ho : H.ob s' j = H2.ob s' j) (h : opE P s0 ρ H (.load t q) = some (av, H')) : opE P s0 ρ H2 (.load t q) = some (av, H2) := by
  simp only [opE, e, loadA] at h ⊢
  rw [← ho]
  split at h
  · split at h
    · rename_i hc
      try simp only [hc]
      split at h
      · rename_i hag
        simp only [Option.some.injEq, Prod.mk.injEq] at h
        simp [hag, h.1]
      · rename_i hag
        simp only [hag]
        split at h
        · simp only [Option.some.injEq, Prod.mk.injEq] at h; simp [h.1]
        · cases h
    · cases h
  · cases h
/-- A step of a drawn region. -/
theorem stepDT_sound {ms : MS} (hT : TabOk P tab) (hR : TD ms ops m0 σ0 M E σ L i al Ev m) {o : Oper} (ho : ops[i]? = some o) {K : V → List Obj → Al → Prop} (h : stepDT P tab (cleanQ ops i) (late ops A i) (lateS ops A i) (stB ops o.op) ops.size A i al σ E o K) {K' : Env → Heap → Prop}
    (hk : ∀ v σ' al' av m', TD ms ops m0 σ0 M (E.put o.dst v) σ' L (i + 1) al' (Ev.put o.dst av) m' → K v σ' al' → K' (Ev.put o.dst av) m'.H) :
    if (quiet o.op && !soloB A ops.size i) = true then QR P (late ops A i, lateS ops A i) L i (A i) Ev m.H o fun v obs => K' (Ev.put o.dst v) (m.H.add (L + i) obs) else zSt (earlyB A i) (stB ops o.op) Ev m.H o.op ∧ stepV P (L + i) Ev m.H o fun v H' => K' (Ev.put o.dst v) H' := by
  have hfree := hR.free
  have hns : ∀ t j k, m.F t j = some k → t ≠ L + i := fun t j k h e => by
    obtain ⟨o, ho⟩ := hR.st.dom t j k h
    rw [e] at ho; simp [Heap.ob, hfree] at ho
  -- the state behind a step
  have mkTD : ∀ {v : V} {av : AV} {m' : MS} {σ' : List Obj} {al' : Al}, Step m σ (L + i) v av m' σ' → (∀ k ∈ al', k.1 < i + 1) → (∀ k ∈ al, k ∈ al') → (m'.H (L + i) ≠ [] → ∃ k ∈ al', k.1 = i) → (∀ k ∈ al', k ∈ al ∨ (k.2.2 ≤ σ'.length ∧ ∀ id κ, k.2.1 ≤ id → id < k.2.2 → kind σ' id = some κ → (m'.ι id).1 = L + k.1)) → (∀ q, o.op = .move q → v = E.ev q ∧ av = Ev.ev q) → TD ms ops m0 σ0 M (E.put o.dst v) σ' L (i + 1) al' (Ev.put o.dst av) m' := fun {v av m' σ' al'} hst h1 h2 h3 h5 h4 => by
    refine ⟨hR.s_le, fun t j h0 => ?_, fun t hc hcl => ?_, fun t hc id off n hv => ?_, hst.st, put_vt (fun t => (hR.env t).keep hst.kp) hst.vt o.dst, fun t ht hne => ?_, h1, fun k hk => ?_, fun t j ht h0 => ?_, hR.io.trans hst.kp, hR.le⟩
    · obtain ⟨a1, a2⟩ := hR.s_kp t j h0
      obtain ⟨b1, b2⟩ := hst.kp.fz t j a1
      exact ⟨b1, b2.trans a2⟩
    · simp only [cleanT, ho] at hc
      cases hd : o.dst with
      | none =>
        rw [hd] at hc hcl
        simp only [EnvV.put, Env.put, reduceCtorEq, if_false] at hc hcl ⊢
        exact hR.start t hc hcl
      | some d =>
        rw [hd] at hc hcl
        simp only [EnvV.put, Env.put, EnvV.upd, Env.upd, Option.some.injEq] at hc hcl ⊢
        by_cases e : t = d
        · subst e
          simp only [if_true] at hc hcl ⊢
          split at hc
          · rename_i q e2
            obtain ⟨e3, e4⟩ := h4 _ e2
            rw [e3] at hcl ⊢
            rw [e4]
            exact clean_vt hR.start (q := .tmp q) hc hcl
          · rename_i q e2
            obtain ⟨e3, e4⟩ := h4 _ e2
            rw [e3, e4]
            exact constV_vt ms [] q
          · cases hc
        · rw [if_neg (fun c => e c.symm)] at hc
          rw [if_neg e] at hcl ⊢
          rw [if_neg e]
          exact hR.start t hc hcl
    · have mv : ∀ id, (id < σ.length ∧ ∀ τ, kind σ id = some (some τ) → (m.ι id).1 < L) → id < σ'.length ∧ ∀ τ, kind σ' id = some (some τ) → (m'.ι id).1 < L := fun id ⟨q1, q2⟩ => by
        refine ⟨Nat.lt_of_lt_of_le q1 hst.kp.len, fun τ hk => ?_⟩
        obtain ⟨c1, c2, _⟩ := hst.kp.live id _ q1 hk
        rw [c2]; exact q2 τ c1
      simp only [cleanT, ho] at hc
      cases hd : o.dst with
      | none =>
        rw [hd] at hc hv
        simp only [EnvV.put, reduceCtorEq, if_false] at hc hv
        exact mv id (hR.own t hc id off n hv)
      | some d =>
        rw [hd] at hc hv
        simp only [EnvV.put, EnvV.upd, Option.some.injEq] at hc hv
        by_cases e : t = d
        · subst e
          simp only [if_true] at hc hv
          split at hc
          · rename_i q e2
            obtain ⟨e3, _⟩ := h4 _ e2
            rw [e3] at hv
            exact mv id (hR.own q hc id off n hv)
          · rename_i q e2
            obtain ⟨e3, _⟩ := h4 _ e2
            rw [e3] at hv
            exact absurd hv (constV_own q)
          · cases hc
        · rw [if_neg (fun c => e c.symm)] at hc
          rw [if_neg e] at hv
          exact mv id (hR.own t hc id off n hv)
    · by_cases e : t = L + i
      · obtain ⟨k, k1, k2⟩ := h3 (e ▸ hne)
        exact ⟨k, k1, by rw [k2]; exact e⟩
      · have : m.H t ≠ [] := fun c => hne (fr_free hR.st hst.fr e c)
        obtain ⟨k, hk, e⟩ := hR.occ t ht this
        exact ⟨k, h2 k hk, e⟩
    · rcases h5 k hk with h | h
      · obtain ⟨r1, r2⟩ := hR.rng k h
        refine ⟨Nat.le_trans r1 hst.kp.len, fun id κ a b c => ?_⟩
        obtain ⟨c1, c2, _⟩ := hst.kp.live id κ (by omega) c
        rw [c2]; exact r2 id κ a b c1
      · exact h
    · obtain ⟨b1, b2⟩ := hR.base t j ht h0
      have hle := hR.le
      obtain ⟨f1, f2⟩ := hst.fr t j (by omega) (fun k => by rw [b2]; exact h0 k)
      exact ⟨f1.trans b1, f2.trans b2⟩
  unfold stepDT at h
  split at h
  · rename_i f as ts e
    have hq : quiet o.op = true := by rw [e]; rfl
    have hf := ev_vt hR.env f
    split at h
    · rename_i f' caps e2
      rw [e2] at hf
      generalize hav : Ev.ev f = fv at hf
      cases hf with
      | fn _ _ cas hl =>
        have hargs : VTL m σ (as.toList.map E.ev ++ caps) (as.toList.map Ev.ev ++ cas) := VTL.append (VTL.map fun q _ => ev_vt hR.env q) hl
        have hvis : ∀ H2 : Heap, seen A al i = true → (∀ t, t ≠ L + i → vis L (A i) t = true → H2 t = m.H t) → ∀ t j k, m.F t j = some k → H2.ob t j = m.H.ob t j := fun H2 hseen h2 t j k hF => by
          have hne := hns t j k hF
          obtain ⟨ob, hob⟩ := hR.st.dom t j k hF
          have hH : H2 t = m.H t := h2 t hne (by
            unfold vis
            rcases Nat.lt_or_ge t L with h1 | h1
            · simp [h1]
            · obtain ⟨k, hk, e⟩ := hR.occ t h1 (fun c => by simp [Heap.ob, c] at hob)
              have := List.all_eq_true.1 hseen k hk
              subst e
              simp [this])
          simp [Heap.ob, hH]
        have hlt : ∀ x y, ∀ k ∈ ((i, x, y) :: al : Al), k.1 < i + 1 := fun x y k hk => by
          rcases List.mem_cons.1 hk with rfl | hk
          · exact Nat.lt_succ_self _
          · have := hR.lt k hk; omega
        have hzz : ∀ (σ' : List Obj) (m' : MS), ∀ k ∈ ((i, 0, 0) :: al : Al), k ∈ al ∨ (k.2.2 ≤ σ'.length ∧ ∀ id κ, k.2.1 ≤ id → id < k.2.2 → kind σ' id = some κ → (m'.ι id).1 = L + k.1) := fun σ' m' k hk => by
          rcases List.mem_cons.1 hk with rfl | hk
          · exact .inr ⟨Nat.zero_le _, fun id κ _ h => by simp at h⟩
          · exact .inl hk
        rcases h with ⟨hso, h⟩ | ⟨hso, h⟩
        · rw [hso]
          simp only [hq, Bool.not_true, Bool.and_false, Bool.false_eq_true, if_false]
          refine ⟨by rw [e]; trivial, ?_⟩
          unfold stepV
          rw [e]
          simp only [hav]
          have fin : ∀ av H', (∃ v σ' m', m'.H = H' ∧ Step m σ (L + i) v av m' σ' ∧ K v σ' ((i, 0, 0) :: al)) → K' (Ev.put o.dst av) H' := fun av H' ⟨v, σ', m', e1, h1, h2⟩ => by
            rw [← e1]
            exact hk v σ' ((i, 0, 0) :: al) av m' (mkTD h1 (hlt 0 0) (fun k hk => by simp [hk]) (fun _ => ⟨_, List.mem_cons_self .., rfl⟩) (hzz _ _) (fun q e5 => by rw [e] at e5; cases e5)) h2
          rcases h with h | h
          · exact (callT_sound hR.st hfree hargs h).mono fin
          · exact (callI_sound hR.st hfree hargs h).mono fin
        · rw [hso]
          simp only [hq, Bool.not_false, Bool.and_self, if_true]
          unfold QR
          rw [e]
          simp only [hav]
          obtain ⟨hseen, h⟩ := h
          simp only [Bool.or_eq_true, Bool.and_eq_true] at hseen
          -- arguments that were there before the region
          have hcl : ∀ H2 : Heap, (as.toList.all (cleanQ ops i) = true ∧ closVs (as.toList.map E.ev) = true) ∧ caps.isEmpty = true → (∀ t, t ≠ L + i → vis L (A i) t = true → H2 t = m.H t) →
              (∀ t j, ms.F t j = some 0 → H2.ob t j = ms.H.ob t j) ∧ St (⟨fun t j => if ms.F t j = some 0 then some 0 else none, H2, ms.ι⟩ : MS) [] ∧ VTL (⟨fun t j => if ms.F t j = some 0 then some 0 else none, H2, ms.ι⟩ : MS) [] (as.toList.map E.ev ++ caps) (as.toList.map Ev.ev ++ cas) ∧ closVs (as.toList.map E.ev ++ caps) = true := fun H2 ⟨⟨c1, c2⟩, c3⟩ h2 => by
            obtain rfl : caps = [] := by simpa using c3
            cases hl
            have hob : ∀ t j, ms.F t j = some 0 → H2.ob t j = ms.H.ob t j := fun t j h0 => by
              have ht := hR.s_le t j 0 h0
              have hH : H2 t = m.H t := h2 t (by omega) (by simp [vis, ht])
              have := (hR.s_kp t j h0).2
              simp only [Heap.ob] at this ⊢
              rw [hH]; exact this
            refine ⟨hob, ⟨fun id o ho => by simp at ho, fun t j k e => ?_⟩, ?_, by simpa using c2⟩
            · simp only at e ⊢
              split at e
              · rename_i h0
                obtain ⟨ob, hob2⟩ := hR.st.dom t j 0 (hR.s_kp t j h0).1
                exact ⟨ob, by rw [hob t j h0, ← (hR.s_kp t j h0).2]; exact hob2⟩
              · cases e
            · simp only [List.append_nil]
              exact clos_vts (m := ms) (σ := []) (fun s j g => ⟨by
                have g' : ms.F s j = some 0 := g
                show (if ms.F s j = some 0 then some 0 else none) = some 0
                rw [if_pos g'], hob s j g⟩) c2 (clean_vts hR.start c1 c2)
          rcases h with h | h
          · obtain ⟨cargs, rs, hcon, hfit, k1⟩ := h
            have k2 := hcon.1
            refine ⟨fun v obs => v = encV rs ∧ obs = [], ⟨_, _, rfl, rfl⟩, fun H2 _ h2 => CallV.mono (R := fun av H' => av = encV rs ∧ H' = H2) ?_ fun av H' ⟨e1, e2⟩ => ⟨[], ⟨e1, rfl⟩, e2⟩, ?_⟩
            · rcases hseen with hseen | hsc | hcc
              rotate_left 2
              · obtain ⟨_, q2, q3, q4⟩ := hcl H2 hcc h2
                exact callS_sound q2 q3 hcon (clos_fit q4 hfit) H2 (L + i) (fun t j k e => rfl)
              · exact callS_sound hR.st hargs hcon hfit H2 (L + i) (hvis H2 hseen h2)
              · exact callS_sound (m := ⟨fun _ _ => none, H2, m.ι⟩) (σ := []) ⟨fun id o ho => by simp at ho, fun t j k e => by simp at e⟩ (scals_move hsc hargs) hcon (scal_fit hsc hfit) H2 (L + i) (fun t j k e => by simp at e)
            rintro v obs ⟨rfl, rfl⟩
            exact hk _ _ al _ m (mkTD (Step.same hR.st (scal_vt m σ rs k2)) (fun k hk => by have := hR.lt k hk; omega) (fun k hk => hk) (fun c => absurd hfree c) (fun k hk => .inl hk) (fun q e5 => by rw [e] at e5; cases e5)) k1
          · obtain ⟨cargs, rs, σ1, hc, hfit, hp, w1, w2, h⟩ := h
            refine ⟨Made (L + i) rs σ1, made_ne (L + i) w1 w2, fun H2 hf2 h2 => ?_, fun v obs hm => ?_⟩
            · rcases hseen with hseen | hsc | hcc
              rotate_left 2
              · obtain ⟨_, q2, q3, q4⟩ := hcl H2 hcc h2
                exact made_of q2 q3 hc (clos_fit q4 hfit) hp hf2 (fun t j k e => rfl)
              · exact made_of hR.st hargs hc hfit hp hf2 (hvis H2 hseen h2)
              · exact made_of (m := ⟨fun _ _ => none, H2, m.ι⟩) (σ := []) ⟨fun id o ho => by simp at ho, fun t j k e => by simp at e⟩ (scals_move hsc hargs) hc (scal_fit hsc hfit) hp hf2 (fun t j k e => by simp at e)
            obtain ⟨m', e1, hst, hnew⟩ := made_step hR.st hfree hm
            rw [← e1]
            exact hk _ _ _ _ m' (mkTD hst (hlt _ _) (fun k hk => by simp [hk]) (fun _ => ⟨_, List.mem_cons_self .., rfl⟩) (fun k hk => by
              rcases List.mem_cons.1 hk with rfl | hk
              · exact .inr ⟨Nat.le_refl _, fun id κ a _ c => hnew id κ a c⟩
              · exact .inl hk) (fun q e5 => by rw [e] at e5; cases e5)) h
    · exact h.elim
  · rename_i op hne
    obtain ⟨hcond, h⟩ := h
    obtain ⟨av, H', h1, v, σ', m', e1, hst, hK, hmv⟩ : ∃ av H', opE P (L + i) Ev.ev m.H o.op = some (av, H') ∧ ∃ v σ' m', m'.H = H' ∧ Step m σ (L + i) v av m' σ' ∧ K v σ' (if leaves o.op = true then al else (i, 0, 0) :: al) ∧ ∀ q, o.op = .move q → v = E.ev q ∧ av = Ev.ev q := by
      cases hop : o.op with
      | move x =>
        rw [hop] at h
        refine ⟨Ev.ev x, m.H, by simp only [opE], E.ev x, σ, m, rfl, Step.same hR.st (ev_vt hR.env x), ?_, fun q e => by injection e with e; subst e; exact ⟨rfl, rfl⟩⟩
        exact h
      | _ =>
        rw [← hop]
        obtain ⟨av, H', h1, v, σ', m', e1, hst, hK⟩ := opT2_sound (s := L + i) hT hR.st hfree (fun q _ => ev_vt hR.env q) h
        exact ⟨av, H', h1, v, σ', m', e1, hst, hK, fun q e => by rw [hop] at e; cases e⟩
    have hlv : leaves o.op = true → H' = m.H := fun hl => by
      cases hop : o.op <;> rw [hop] at hl h1 <;> simp only [leaves] at hl <;> first
        | exact leaves_load h1
        | exact leaves_slice h1
        | exact (pure_op hl h1).1
    have td : TD ms ops m0 σ0 M (E.put o.dst v) σ' L (i + 1) (if leaves o.op = true then al else (i, 0, 0) :: al) (Ev.put o.dst av) m' := by
      refine mkTD hst (fun k hk => ?_) (fun k hk => ?_) (fun c => ?_) (fun k hk => ?_) hmv
      · split at hk
        · have := hR.lt k hk; omega
        · rcases List.mem_cons.1 hk with rfl | hk
          · exact Nat.lt_succ_self _
          · have := hR.lt k hk; omega
      · split
        · exact hk
        · simp [hk]
      · split
        · rename_i hl
          rw [e1, hlv hl] at c
          exact absurd hfree c
        · exact ⟨_, List.mem_cons_self .., rfl⟩
      · split at hk
        · exact .inl hk
        · rcases List.mem_cons.1 hk with rfl | hk
          · exact .inr ⟨Nat.zero_le _, fun id κ _ h => by simp at h⟩
          · exact .inl hk
    have fin := hk v σ' _ av m' td hK
    rw [e1] at fin
    have hzc : lateT (late ops A i) (lateS ops A i) σ E o.op = true → zCond (late ops A i, lateS ops A i) Ev m.H o.op := fun hc => by
      cases hop : o.op with
      | load t q =>
        rw [hop] at hc h
        have hv := ev_vt hR.env q
        simp only [opT2, opT] at h
        split at h
        · simp only [lateT] at hc
          split at hc
          · rename_i id k e
            rw [e] at hv h
            simp only [loadT, loadT0] at h
            split at h
            · rename_i vs e2
              obtain ⟨g, z, as, k1, k2, k3⟩ := hR.st.obj id _ e2
              obtain ⟨o2, q1, q2⟩ := hv.pcell_inv (kind_vars e2)
              refine ⟨fun _ => ?_, fun hl => ?_⟩
              · simp only [zOf, q2]
                exact ⟨_, k1, z.2⟩
              · simp only at hl
                rw [hl] at hc; cases hc
            · exact h.elim
          · rename_i id k e
            rw [e] at hv
            simp only [Bool.and_eq_true, Bool.not_eq_true', Bool.or_eq_true] at hc
            refine ⟨fun hl => absurd hl (by simp only; rw [hc.1]; decide), fun hl => ?_⟩
            simp only at hl
            rcases hc.2 with hc | hc
            · rw [hl] at hc; cases hc
            · unfold nzK at hc
              split at hc
              · rename_i τ l e2
                have hkd : kind σ id = some (some τ) := by unfold kind; rw [e2]; rfl
                obtain ⟨ob, q1, q2⟩ := hv.pel_inv hkd
                obtain ⟨o2, O, k1, k2, _⟩ := hR.st.obj id _ e2
                simp only [zNo, q2]
                rcases k2 with ⟨k2, _⟩ | ⟨s, j, g, parts, k2, k3, _⟩
                · cases k2
                · injection k2 with k2 _
                  injection k2 with a1 a2 a3
                  subst a1; subst a2
                  exact ⟨_, k3, by simpa using hc⟩
              · cases hc
          · simp only [Bool.and_eq_true, Bool.not_eq_true'] at hc
            exact ⟨fun hl => absurd hl (by simp only; rw [hc.1]; decide), fun hl => absurd hl (by simp only; rw [hc.2]; decide)⟩
        · exact h.elim
      | _ => exact ⟨fun _ => trivial, fun _ => trivial⟩
    have hzs : zSt (earlyB A i) (stB ops o.op) Ev m.H o.op := by
      cases hop : o.op with
      | store t a x =>
        rw [hop] at hcond h
        simp only [quiet, pureOp, makes, lateT, stT, slC, Bool.not_false, Bool.true_and, Bool.or_false, Bool.false_and, Bool.or_eq_true, Bool.not_eq_true'] at hcond
        intro he
        rcases hcond with hc | hc
        · rw [he] at hc; cases hc
        · split at hc
          · rename_i id k e
            have hv := ev_vt hR.env a
            rw [e] at hv
            simp only [opT2, opT] at h
            split at h
            · rw [e] at h
              simp only [storeT, storeT0] at h
              split at h
              · rename_i vs e2
                obtain ⟨g, z, as, k1, k2, k3⟩ := hR.st.obj id _ e2
                obtain ⟨o2, q1, q2⟩ := hv.pcell_inv (kind_vars e2)
                simp only [q2]
                refine ⟨_, k1, ?_⟩
                rw [Bool.not_eq_true'] at hc
                rw [hc]
                exact z.2
              · exact h.elim
            · exact h.elim
          · rename_i id k e
            have hv := ev_vt hR.env a
            rw [e] at hv
            simp only [Bool.and_eq_true] at hc
            rw [hc.1]
            have hc2 := hc.2
            unfold nzK at hc2
            split at hc2
            · rename_i τ l e2
              have hkd : kind σ id = some (some τ) := by unfold kind; rw [e2]; rfl
              obtain ⟨ob, q1, q2⟩ := hv.pel_inv hkd
              obtain ⟨o2, O, k1, k2, _⟩ := hR.st.obj id _ e2
              simp only [q2]
              rcases k2 with ⟨k2, _⟩ | ⟨s, j, g, parts, k2, k3, _⟩
              · cases k2
              · injection k2 with k2 _
                injection k2 with a1 a2 a3
                subst a1; subst a2
                exact ⟨_, k3, by simpa [zCls] using hc2⟩
            · cases hc2
          · cases hc
      | _ => trivial
    split
    · rename_i hq
      simp only [Bool.and_eq_true] at hq
      replace hq := hq.1
      unfold QR
      split
      · rename_i f as ts e; exact (hne _ _ _ e).elim
      · simp only [Bool.or_eq_true, Bool.not_eq_true'] at hcond
        rcases hcond with ((((hc | hc) | hc) | hc) | hc) | hc
        · simp [hq] at hc
        · obtain ⟨p1, p2⟩ := pure_op hc h1
          refine ⟨_, p2 _, ⟨fun _ => by
            unfold zOf
            split
            · rename_i e; rw [e] at hc; cases hc
            · trivial, fun _ => by
            unfold zNo
            split
            · rename_i e; rw [e] at hc; cases hc
            · trivial⟩, ?_⟩
          simp only at p1 ⊢
          have : hide L (A i) i m.H (L + i) = [] := by simp [Go.Proofs.YtffiddkignmobaaDoorVe.hide]
          show K' (Ev.put o.dst av) (m.H.add (L + i) (hide L (A i) i m.H (L + i)))
          rw [this]
          rw [p1] at fin
          exact fin
        · obtain ⟨l, l1, l2⟩ := makes_op hc h1
          refine ⟨_, l2 _, ⟨fun _ => by
            unfold zOf
            split
            · rename_i e; rw [e] at hc; cases hc
            · trivial, fun _ => by
            unfold zNo
            split
            · rename_i e; rw [e] at hc; cases hc
            · trivial⟩, ?_⟩
          simp only at l1
          show K' (Ev.put o.dst av) (m.H.add (L + i) ((hide L (A i) i m.H).upd (L + i) l (L + i)))
          have e0 : (hide L (A i) i m.H).upd (L + i) l (L + i) = l := by simp [Heap.upd]
          rw [e0, add_eq hfree, ← l1]
          exact fin
        · simp only [Bool.and_eq_true] at hc
          rw [hR.hide hc.2]
          refine ⟨_, h1, hzc hc.1, ?_⟩
          have hm := opE_mono (H2 := m.H) hq h1 hfree hfree (fun _ _ => rfl)
          rw [h1] at hm
          injection hm with hm
          injection hm with _ hm
          show K' (Ev.put o.dst av) (m.H.add (L + i) (H' (L + i)))
          rw [add_eq hfree, ← hm]
          exact fin
        · simp only [Bool.and_eq_true] at hc
          have hzz := hzc hc.1
          replace hc := hc.2
          cases hop : o.op with
          | load t q =>
            rw [hop] at hc h h1
            simp only [visL] at hc
            split at hc
            · rename_i id ix e
              obtain ⟨k, k1, k2⟩ := List.any_eq_true.1 hc
              simp only [Bool.and_eq_true, Nat.ble_eq] at k2
              have hv := ev_vt hR.env q
              rw [e] at hv
              simp only [opT2, opT] at h
              split at h
              · rw [e] at h
                obtain ⟨τ, hτ⟩ := load_kind h
                obtain ⟨ob, q1, q2⟩ := hv.pel_inv hτ
                have hslot := (hR.rng k k1).2 id _ k2.2.1 (by omega) hτ
                have hvo : (hide L (A i) i m.H).ob (m.ι id).1 (m.ι id).2 = m.H.ob (m.ι id).1 (m.ι id).2 := by
                  rw [hslot]
                  have := hR.lt k k1
                  simp only [Heap.ob, Go.Proofs.YtffiddkignmobaaDoorVe.hide]
                  rw [if_neg (by omega), if_pos (by simp [vis, k2.1])]
                refine ⟨_, load_at (H2 := hide L (A i) i m.H) q2 hvo.symm h1, ?_, ?_⟩
                · have hsm : ∀ {b}, zCond b Ev m.H (Op.load t q) → zCond b Ev (hide L (A i) i m.H) (Op.load t q) := fun {b} hb => by
                    unfold zCond zOf zNo at hb ⊢
                    simp only [q2, hvo] at hb ⊢
                    exact hb
                  rw [hop] at hzz
                  exact hsm hzz
                have hH : H' = m.H := leaves_load h1
                have h0 : hide L (A i) i m.H (L + i) = [] := by simp [Go.Proofs.YtffiddkignmobaaDoorVe.hide]
                show K' (Ev.put o.dst av) (m.H.add (L + i) (hide L (A i) i m.H (L + i)))
                rw [h0]
                rw [hH] at fin
                exact fin
              · exact h.elim
            · cases hc
          | _ => rw [hop] at hc; cases hc
        · cases hop : o.op with
          | slice t q lo hi mx =>
            rw [hop] at hc h1
            simp only [slC, Bool.and_eq_true] at hc
            have hH : H' = m.H := leaves_slice h1
            have hslot : ∀ s' j g off n, Ev.ev q = .sl s' j g off n → s' < L := fun s' j g off n e => by
              have hc2 := hc.2
              split at hc2
              · rename_i τ x hv
                have hvt := clean_vt hR.start hc.1 (by rw [hv]; rfl)
                have hx : List.length x ≠ 0 := by
                  rw [hop] at h
                  simp only [opT2, opT, hv] at h
                  split at h
                  · rename_i e; cases e
                  · rename_i e; cases e; exact h.2.1
                  · rename_i e; cases e
                  · rename_i e; cases e
                  · exact h.elim
                rw [e, hv] at hvt
                cases hvt with
                | val _ _ _ hs =>
                  obtain ⟨a, ch, e1, _, hl, _, hG, _⟩ := hs
                  injection e1 with e1 _
                  subst e1
                  simp only [lenA, Option.some.injEq] at hl
                  exact hR.s_le s' j 0 (hG (by omega))
              · rename_i x hv
                have hvt := clean_vt hR.start hc.1 (by rw [hv]; rfl)
                rw [e, hv] at hvt
                cases hvt with
                | val _ _ _ hs => simp [Sh] at hs
              · rename_i id o1 n1 hv
                obtain ⟨t1, rfl⟩ : ∃ t1, q = .tmp t1 := by
                  cases q with
                  | tmp t1 => exact ⟨t1, rfl⟩
                  | const v => exact absurd hv (constV_own v)
                  | func f => cases hv
                  | global g => cases hv
                have hk : ∃ τ, kind σ id = some (some τ) := by
                  rw [hop] at h
                  simp only [opT2, opT, hv] at h
                  split at h
                  · rename_i e; cases e
                  · rename_i e; cases e
                  · rename_i e
                    cases e
                    split at h
                    · rename_i e2; exact ⟨_, kind_arr e2⟩
                    · rename_i e2; exact ⟨_, kind_frz e2⟩
                    · exact h.elim
                  · rename_i e; cases e
                  · exact h.elim
                obtain ⟨τ, hk⟩ := hk
                have hvt := ev_vt hR.env (Operand.tmp t1)
                rw [hv] at hvt
                obtain ⟨ob, _, e2⟩ := hvt.own_inv hk
                rw [e] at e2
                injection e2 with e2 _
                rw [e2]
                exact (hR.own t1 hc.1 id o1 n1 hv).2 τ hk
              · cases hc2
            refine ⟨_, slice_at (H2 := hide L (A i) i m.H) (fun s' j g off n e => ?_) h1, ⟨fun _ => trivial, fun _ => trivial⟩, ?_⟩
            · have ht := hslot s' j g off n e
              simp only [Heap.ob, Go.Proofs.YtffiddkignmobaaDoorVe.hide]
              rw [if_neg (by omega), if_pos (by simp [vis, ht])]
            have h0 : hide L (A i) i m.H (L + i) = [] := by simp [Go.Proofs.YtffiddkignmobaaDoorVe.hide]
            show K' (Ev.put o.dst av) (m.H.add (L + i) (hide L (A i) i m.H (L + i)))
            rw [h0]
            rw [hH] at fin
            exact fin
          | _ => rw [hop] at hc; cases hc
    · refine ⟨hzs, ?_⟩
      unfold stepV
      split
      · rename_i f as ts e; exact (hne _ _ _ e).elim
      · exact ⟨_, h1, fin⟩
theorem drawT_sound {ms : MS} (hT : TabOk P tab) : ∀ (l : List Oper) (i : Nat) (_ : ops.toList.drop i = l) {al : Al} {E : EnvV} {σ : List Obj} {Ev : Env} {m : MS} {K : EnvV → List Obj → Prop} {K' : Env → Heap → Prop}, i + l.length = ops.size → TD ms ops m0 σ0 M E σ L i al Ev m → drawT P tab ops A i al l E σ K →
    (∀ E' σ' Ev' m', TR m0 σ0 M E' σ' (L + ops.size) Ev' m' → K E' σ' → K' Ev' m'.H) → drawL P ops A L i l Ev m.H K'
  | [], i, _, al, E, σ, Ev, m, K, K', hn, hR, h, hk => by
    refine hk E σ Ev m ⟨hR.st, hR.env, fun t ht => Classical.byContradiction fun c => ?_, hR.base, hR.io, by have := hR.le; omega⟩ h
    obtain ⟨k, k1, k2⟩ := hR.occ t (by omega) c
    have := hR.lt k k1
    simp at hn
    omega
  | o :: l, i, hl, al, E, σ, Ev, m, K, K', hn, hR, h, hk => by
    have ho : ops[i]? = some o := by
      have := congrArg (fun l => l[0]?) hl
      simpa using this
    have hl1 : ops.toList.drop (i + 1) = l := by
      have := congrArg (fun l => l.drop 1) hl
      simpa [List.drop_drop, Nat.add_comm] using this
    unfold drawT at h
    obtain ⟨E1, hE1, hsame, hg⟩ := guardT_sound2 hR.env h
    have hst1 : ∀ t, cleanT ops i t = true → closV (E1 t) = true → VT ms [] (E1 t) (Ev t) := fun t hc hcl => by
      rcases hsame t with e | ⟨b, e, e2⟩
      · rw [e] at hcl ⊢; exact hR.start t hc hcl
      · rw [e, e2]; exact VT.bool b
    have how1 : ∀ t, cleanT ops i t = true → ∀ id off n, E1 t = .own id off n → id < σ.length ∧ ∀ τ, kind σ id = some (some τ) → (m.ι id).1 < L := fun t hc id off n hv => by
      rcases hsame t with e | ⟨b, e, e2⟩
      · rw [e] at hv; exact hR.own t hc id off n hv
      · rw [e] at hv; cases hv
    have hR1 : TD ms ops m0 σ0 M E1 σ L i al Ev m := ⟨hR.s_le, hR.s_kp, hst1, how1, hR.st, hE1, hR.occ, hR.lt, hR.rng, hR.base, hR.io, hR.le⟩
    unfold drawL stepO
    rcases hg with ⟨hg, h⟩ | ⟨hg, h⟩
    · rw [hg]
      simp only
      exact stepDT_sound hT hR1 ho h (K' := fun E H => drawL P ops A L (i + 1) l E H K') fun v σ' al' av m' hR2 h2 => by
        have h2 : drawT P tab ops A (i + 1) al' l (E1.put o.dst v) σ' K := by
          have h := forceL_eq (force_eq h2)
          cases hd : o.dst <;> rw [hd] at h <;> exact h
        exact drawT_sound hT l (i + 1) hl1 (by simp at hn; omega) hR2 h2 hk
    · rw [hg]
      simp only
      replace h : drawT P tab ops A (i + 1) al l (E1.put o.dst (.tup [])) σ K := by
        cases hd : o.dst <;> rw [hd] at h <;> exact h
      refine drawT_sound hT l (i + 1) hl1 (by simp at hn; omega) ⟨hR.s_le, hR.s_kp, fun t hc hcl => ?_, fun t hc id off n hv => ?_, hR.st, put_vt hE1 (.tup [] [] .nil) o.dst, hR.occ, fun k hk => by have := hR.lt k hk; omega, hR.rng, hR.base, hR.io, hR.le⟩ h hk
      · cases hd : o.dst with
        | none =>
          rw [hd] at hcl
          simp only [EnvV.put, Env.put] at hcl ⊢
          exact hst1 t (by simpa [cleanT, ho, hd] using hc) hcl
        | some d =>
          rw [hd] at hcl
          simp only [EnvV.put, Env.put, EnvV.upd, Env.upd] at hcl ⊢
          by_cases e : t = d
          · rw [if_pos e, if_pos e]; exact .tup [] [] .nil
          · rw [if_neg e] at hcl ⊢
            rw [if_neg e]
            have hc2 : cleanT ops i t = true := by
              simp only [cleanT, ho, hd, Option.some.injEq] at hc
              rwa [if_neg (fun c => e c.symm)] at hc
            exact hst1 t hc2 hcl
      · cases hd : o.dst with
        | none =>
          rw [hd] at hv
          simp only [EnvV.put] at hv
          exact how1 t (by simpa [cleanT, ho, hd] using hc) id off n hv
        | some d =>
          rw [hd] at hv
          simp only [EnvV.put, EnvV.upd] at hv
          by_cases e : t = d
          · rw [if_pos e] at hv; cases hv
          · rw [if_neg e] at hv
            have hc2 : cleanT ops i t = true := by
              simp only [cleanT, ho, hd, Option.some.injEq] at hc
              rwa [if_neg (fun c => e c.symm)] at hc
            exact how1 t hc2 id off n hv
end
end Go.Proofs.YtffiddkignmobaaDoorTv
end
section
/- TV, part W: code is sound. -/
namespace Go.Proofs.YtffiddkignmobaaDoorTv
open Go.Proofs.YtffiddkignmobaaDoorVe
section
variable {P : Program} {tab : List (Nat × TE)} {m0 m m' : MS} {M L s i : Nat} {E : EnvV} {σ σ' : List Obj} {Ev : Env}
theorem gho_step {k0 : Nat} {σ σ' : List Obj} (h : GhR k0 σ σ') : ∀ {m : MS}, St m σ → m.H s = [] → ∃ m', m'.H = m.H ∧ St m' σ' ∧ Kp m σ m' σ' ∧ Fr m m' s ∧ ∀ id, id < k0 → kind σ' id = kind σ id := by
  induction h with
  | refl σ => exact fun {m} hS hs => ⟨m, rfl, hS, Kp.refl m σ, Fr.refl m s, fun _ _ => rfl⟩
  | frz ids σ σ' h ih =>
    intro m hS hs
    obtain ⟨m1, e1, f1, f2, f3⟩ := frzL_step (s := s) (ids.map fun id => V.own id 0 0) hS hs
    obtain ⟨m2, e2, g1, g2, g3, g4⟩ := ih f1 (by rw [e1]; exact hs)
    refine ⟨m2, e2.trans e1, g1, f2.trans g2, f3.trans g3, fun id hid => (g4 id hid).trans ?_⟩
    have hfz := frzL_frz (ids.map fun id => V.own id 0 0) σ
    unfold kind
    rcases hfz.2 id with e | ⟨t, l, u, x1, x2⟩
    · exact congrArg (fun o => Option.bind o Obj.kind) e
    · have x2' : (frzI ids σ)[id]? = some (.frz t l) := x2
      rw [x1, x2']; rfl
  | join id σ σ1 σ' hj h ih =>
    intro m hS hs
    unfold joinK at hj
    split at hj
    · rename_i t l i v e
      obtain ⟨hk, hj⟩ := hj
      have hj2 : joinV σ id t l i v fun l' σ2 => σ2 = σ1 ∧ ∀ id0, id0 < k0 → kind σ2 id0 = kind σ id0 := by
        have hid : id < σ.length := (List.getElem?_eq_some_iff.1 e).1
        cases v <;> simp only [joinV] at hj ⊢
        · refine ⟨hj, fun id0 h0 => ?_⟩
          by_cases hne : id0 = id
          · subst hne; rw [kind_hole e]; simp [kind, hid, Obj.kind]
          · unfold kind; rw [List.getElem?_set_ne (fun c => hne c.symm)]
        · obtain ⟨row, e4, e5, e6, e7, hj⟩ := hj
          refine ⟨row, e4, e5, e6, e7, hj, fun id0 h0 => ?_⟩
          simp only at hk
          by_cases hne : id0 = id
          · subst hne; rw [kind_hole e]; simp [kind, hid, Obj.kind]
          · unfold kind; rw [List.getElem?_set_ne (fun c => hne c.symm), List.getElem?_set_ne (by omega)]
      obtain ⟨l', σ2, m1, e1, f1, f2, f3, ⟨rfl, f4⟩, _⟩ := hole_join (s := s) hS hs e hj2
      obtain ⟨m2, e2, g1, g2, g3, g4⟩ := ih f1 (by rw [e1]; exact hs)
      exact ⟨m2, e2.trans e1, g1, f2.trans g2, f3.trans g3, fun id0 h0 => (g4 id0 h0).trans (f4 id0 h0)⟩
    · exact hj.elim
theorem fit_sound (hS : St m σ) (hE : ∀ t, VT m σ (E t) (Ev t)) {k0 : Nat} {env : List (Nat × V)} {ob : List Obj} (hs : m.H s = []) (h : Fits k0 E σ env ob) : ∃ m', m'.H = m.H ∧ St m' ob ∧ (∀ t, VT m' ob ((mkE env) t) (Ev t)) ∧ (∀ t j, (∀ k, m.F t j ≠ some (k + 1)) → m'.F t j = m.F t j) ∧
    k0 ≤ ob.length ∧ ∀ id, id < k0 → kind ob id = kind σ id ∧ ∀ κ, kind σ id = some κ → m'.ι id = m.ι id := by
  obtain ⟨fr, r, h1, h2, h3, h4, h5, h6⟩ := h
  suffices hh : ∀ {m : MS} {σ : List Obj}, St m σ → (∀ t, VT m σ (E t) (Ev t)) → fitO σ r r ob → ∃ m', m'.H = m.H ∧ St m' ob ∧ (∀ t, VT m' ob ((mkE env) t) (Ev t)) ∧ (∀ t j, (∀ k, m.F t j ≠ some (k + 1)) → m'.F t j = m.F t j) ∧
      k0 ≤ ob.length ∧ ∀ id, id < k0 → kind ob id = kind σ id ∧ ∀ κ, kind σ id = some κ → m'.ι id = m.ι id by
    obtain ⟨m1, e1, f1, f2, f3, f4⟩ := gho_step (s := s) fr.ok hS hs
    obtain ⟨m2, e2, g1, g2, g3, g4, g5⟩ := hh f1 (fun t => (hE t).keep f2) h2
    refine ⟨m2, e2.trans e1, g1, g2, fun t j hn => ?_, g4, fun id hid => ?_⟩
    · by_cases ht : t = s
      · have hn1 : m.F t j = none := by
          cases h : m.F t j with
          | none => rfl
          | some k =>
            obtain ⟨o, ho⟩ := hS.dom t j k h
            rw [ht] at ho; simp [Heap.ob, hs] at ho
        have hn2 : m1.F t j = none := by
          cases h : m1.F t j with
          | none => rfl
          | some k =>
            obtain ⟨o, ho⟩ := f1.dom t j k h
            rw [e1, ht] at ho; simp [Heap.ob, hs] at ho
        rw [g3 t j (fun k => by rw [hn2]; simp), hn2, hn1]
      · have h7 := (f3 t j ht hn).2
        rw [g3 t j (fun k => by rw [h7]; exact hn k), h7]
    · obtain ⟨a1, a2⟩ := g5 id hid
      have hk := f4 id hid
      refine ⟨a1.trans hk, fun κ hκ => (a2 κ (hk.trans hκ)).trans (f2.live id κ ?_ (hk.trans hκ)).2.1⟩
      exact kind_lt hκ
  clear hS hE h2 hs
  intro m σ hS hE h2
  obtain ⟨hr, hg⟩ := fitO_get h2
  have hget : ∀ k o, ob[k]? = some o → r[k]? = some (r.getD k 0) ∧ σ[r.getD k 0]? = some (o.ren r) := fun k o ho => by
    obtain ⟨i, hi, hs⟩ := hg k o ho
    have : r.getD k 0 = i := by rw [List.getD_eq_getElem?_getD, hi]; rfl
    rw [this]; exact ⟨hi, hs⟩
  have hk : ∀ k, k < ob.length → kind σ (r.getD k 0) = kind ob k := fun k hk => by
    have ho := List.getElem?_eq_getElem hk
    unfold kind
    rw [(hget k _ ho).2, ho]
    exact Obj.kind_ren _ _
  have hk0 : k0 ≤ r.length := by
    have := congrArg List.length h6
    simp at this; omega
  refine ⟨fitM m r none, rfl, fitM_st hS h3 h2 h5 none, fun t => ?_, fun t j hn => ?_, by omega, fun id hid => ?_⟩
  · have key : ∀ (l : List (Nat × V)), fitE E r l → (l.all fun p => idsIn ob.length p.2) = true → VT (fitM m r none) ob ((mkE l) t) (Ev t) := fun l => by
      induction l with
      | nil => intro _ _; exact .undef _
      | cons p l ih =>
        obtain ⟨u, v⟩ := p
        intro he hi
        simp only [List.all_cons, Bool.and_eq_true] at hi
        simp only [mkE, EnvV.upd]
        split
        · rename_i e
          subst e
          have := hE t
          rw [he.1] at this
          exact VT.fit (m := m) (m2 := fitM m r none) rfl (fun _ => rfl) (fun t j h => fitM_zero h) hk hi.1 this
        · exact ih he.2 hi.2
    exact key env h1 h4
  · have key : ∀ x : Option Nat, (∀ k, x ≠ some (k + 1)) → (match x with | some (k + 1) => if k ∈ r then some (r.idxOf k + 1) else none | x => x) = x := fun x hx => by
      cases x with
      | none => rfl
      | some k =>
        cases k with
        | zero => rfl
        | succ k => exact absurd rfl (hx k)
    exact key _ hn
  · have : r.getD id 0 = id := by
      have h7 : r[id]? = some id := by
        have := congrArg (fun l => l[id]?) h6
        simp only [List.getElem?_take, hid, if_true, List.getElem?_range hid] at this
        exact this
      rw [List.getD_eq_getElem?_getD, h7]; rfl
    have h8 := hk id (by omega)
    rw [this] at h8
    exact ⟨h8.symm, fun _ _ => by simp only [fitM, this]⟩
theorem own_low {m : MS} {σ : List Obj} {L id off n : Nat} {a : AV} (hf : ∀ t, L ≤ t → m.H t = []) (h : VT m σ (.own id off n) a) : id < σ.length ∧ ∀ τ, kind σ id = some (some τ) → (m.ι id).1 < L := by
  cases h with
  | own _ _ _ _ h2 h3 =>
    refine ⟨h2, fun τ hk => Classical.byContradiction fun c => ?_⟩
    obtain ⟨o, ho, _⟩ := h3 τ hk
    unfold MS.at at ho
    rw [Heap.ob, hf _ (Nat.le_of_not_lt c)] at ho
    simp at ho
theorem wpT_sound (hT : TabOk P tab) {σ0 : List Obj} : ∀ (c : Code) {E : EnvV} {σ : List Obj} {L : Nat} {Ev : Env} {m : MS} {Q : PostT} {Q' : Post}, TR m0 σ0 M E σ L Ev m → wpT P tab σ0.length c E σ Q →
    (∀ e L' Ev' m' E' σ', TR m0 σ0 M E' σ' L' Ev' m' → Q e E' σ' → Q' e L' Ev' m'.H) → wpV P c L Ev m.H Q' := by
  intro c
  induction c with
  | skip => intro E σ L Ev m Q Q' hR h hk; exact w_skip (hk _ L Ev m E σ hR h)
  | label l => intro E σ L Ev m Q Q' hR h hk; rw [wpV]; exact hk _ L Ev m E σ hR h
  | exit l => intro E σ L Ev m Q Q' hR h hk; exact w_exit (hk _ L Ev m E σ hR h)
  | ret => intro E σ L Ev m Q Q' hR h hk; exact w_ret (hk _ L Ev m E σ hR h)
  | region id ops draw =>
    intro E σ L Ev m Q Q' hR h hk
    cases draw with
    | true =>
      obtain ⟨ha, h⟩ := h
      exact w_drawn ha (drawT_sound (ms := m) hT ops.toList 0 rfl (by simp) ⟨fun t j k h0 => Classical.byContradiction fun c => by
        obtain ⟨o, ho⟩ := hR.st.dom t j k h0
        simp [Heap.ob, hR.free t (by omega)] at ho, fun t j h0 => ⟨h0, rfl⟩, fun t _ hc => clos_vt (fun s j g => ⟨g, rfl⟩) hc (hR.env t), fun t _ id off n hv => own_low hR.free (hv ▸ hR.env t), hR.st, hR.env, fun t ht c => absurd (hR.free t ht) c, by simp, by simp, hR.base, hR.io, hR.le⟩ h fun E' σ' Ev' m' r k => hk _ _ Ev' m' E' σ' r k)
    | false =>
      exact w_region (seqT_sound hT ops.toList 0 (by simpa using hR) h fun E' σ' Ev' m' r k => hk _ _ Ev' m' E' σ' (by simpa using r) k)
  | seq a b iha ihb =>
    intro E σ L Ev m Q Q' hR h hk
    refine w_seq (iha hR h fun e L' Ev' m' E' σ' r k => ?_)
    cases e with
    | normal => exact ihb r k hk
    | _ => exact hk _ L' Ev' m' E' σ' r k
  | cond c t f iht ihf =>
    intro E σ L Ev m Q Q' hR h hk
    unfold wpT at h
    split at h
    · rename_i b e
      have hc := ev_vt hR.env c
      rw [e] at hc
      exact w_cond hc.bool_inv (fun hb => iht hR (h.t hb) hk) (fun hb => ihf hR (h.f hb) hk)
    · exact h.elim
  | block id c ih =>
    intro E σ L Ev m Q Q' hR h hk
    refine w_block (ih hR h fun e L' Ev' m' E' σ' r k => ?_)
    cases e with
    | exit i =>
      simp only [PostT.blk] at k
      simp only [Post.blk]
      by_cases hi : i = id
      · rw [if_pos hi] at k ⊢; exact hk _ L' Ev' m' E' σ' r k
      · rw [if_neg hi] at k ⊢; exact hk _ L' Ev' m' E' σ' r k
    | _ => exact hk _ L' Ev' m' E' σ' r k
  | loop c ih =>
    intro E σ L Ev m Q Q' hR h hk
    obtain ⟨α, inv, n, env, ob, ⟨a, hf, hi⟩, hstep⟩ := h
    have enter : ∀ {E : EnvV} {σ : List Obj} {L : Nat} {Ev : Env} {m : MS} {a : α}, TR m0 σ0 M E σ L Ev m → Fits σ0.length E σ (env a) (ob a) → ∃ m', m'.H = m.H ∧ TR m0 σ0 M (mkE (env a)) (ob a) L Ev m' := fun {E σ L Ev m a} hR hf => by
      obtain ⟨m', e1, f1, f2, f3, f4, f5⟩ := fit_sound (s := L) hR.st hR.env (hR.free L (Nat.le_refl _)) hf
      refine ⟨m', e1, f1, f2, fun t ht => by rw [e1]; exact hR.free t ht, fun t j ht h0 => ⟨by rw [e1]; exact (hR.base t j ht h0).1, by
        rw [f3 t j (hR.noown ht h0)]; exact (hR.base t j ht h0).2⟩, ⟨fun t j g => ?_, f4, fun id κ hid hκ => ?_⟩, hR.le⟩
      · obtain ⟨a1, a2⟩ := hR.io.fz t j g
        have a3 : m.F t j = some 0 := a1
        exact ⟨(f3 t j (fun k e => by rw [a3] at e; injection e with e; omega)).trans a1, by rw [e1]; exact a2⟩
      · obtain ⟨b1, b2⟩ := f5 id hid
        rw [b1] at hκ
        obtain ⟨c1, c2, c3⟩ := hR.io.live id κ hid hκ
        refine ⟨c1, (b2 κ hκ).trans c2, fun o ho => ?_⟩
        obtain ⟨o', d1, d2⟩ := c3 o ho
        exact ⟨o', by unfold MS.at at d1 ⊢; rw [e1, b2 κ hκ]; exact d1, d2⟩
    obtain ⟨m1, e1, r1⟩ := enter hR hf
    refine w_loop (fun k L Ev H => ∃ a m, k = n a ∧ inv a ∧ m.H = H ∧ TR m0 σ0 M (mkE (env a)) (ob a) L Ev m) (n a) ⟨a, m1, rfl, hi, e1, r1⟩ fun k L1 Ev1 H1 _ ⟨a1, m2, hk1, hi1, e2, r2⟩ => ?_
    subst e2
    refine ih r2 (hstep a1 hi1) fun e L' Ev' m' E' σ' r k' => ?_
    cases e with
    | normal =>
      obtain ⟨a2, hf2, hi2, hlt⟩ := k'
      obtain ⟨m3, e3, r3⟩ := enter r hf2
      exact ⟨n a2, by omega, a2, m3, rfl, hi2, e3, r3⟩
    | _ => exact hk _ L' Ev' m' E' σ' r k'
  | _ => intro E σ L Ev m Q Q' hR h hk; exact h.elim
end
end Go.Proofs.YtffiddkignmobaaDoorTv
end
section
/- TV, part X: what a body made comes home. -/
namespace Go.Proofs.YtffiddkignmobaaDoorTv
open Go.Proofs.YtffiddkignmobaaDoorVe
section
variable {m : MS} {σ : List Obj} {φ : Nat → Nat → Nat × Nat} {H2 : Heap}
open Classical in
noncomputable def homeF (m : MS) (φ : Nat → Nat → Nat × Nat) : Nat → Nat → Option Nat := fun t j =>
  if h : ∃ q : Nat × Nat, own m.H q.1 q.2 ∧ φ q.1 q.2 = (t, j) then m.F h.choose.1 h.choose.2 else none
noncomputable def homeM (m : MS) (φ : Nat → Nat → Nat × Nat) (H2 : Heap) : MS := ⟨homeF m φ, H2, fun i => φ (m.ι i).1 (m.ι i).2⟩
theorem homeF_eq (h : Reloc m.H φ (own m.H) H2) {t j : Nat} (ho : own m.H t j) : homeF m φ (φ t j).1 (φ t j).2 = m.F t j := by
  have hx : ∃ q : Nat × Nat, own m.H q.1 q.2 ∧ φ q.1 q.2 = ((φ t j).1, (φ t j).2) := ⟨(t, j), ho, rfl⟩
  unfold homeF
  rw [dif_pos hx]
  have := h.inj _ _ t j hx.choose_spec.1 ho hx.choose_spec.2
  rw [this.1, this.2]
theorem home_at (h : Reloc m.H φ (own m.H) H2) {id : Nat} {o : Ob} (ho : m.at id = some o) : (homeM m φ H2).at id = some ⟨o.g, o.z, AV.rens φ o.cells⟩ := h.fwd _ _ _ ⟨o, ho⟩ ho
theorem rens_flatten (φ : Nat → Nat → Nat × Nat) (l : List (List AV)) : AV.rens φ l.flatten = (l.map (AV.rens φ)).flatten := by
  have e : AV.rens φ = List.map (AV.ren φ) := by funext x; exact AV.rens_map φ x
  rw [e, List.map_flatten]
theorem rens_append (φ : Nat → Nat → Nat × Nat) (l k : List AV) : AV.rens φ (l ++ k) = AV.rens φ l ++ AV.rens φ k := by simp [AV.rens_map]
theorem Sh.home (h : Reloc m.H φ (own m.H) H2) : ∀ {t : Ty} {x : t.den} {cs : List AV}, Sh m.fz m.H t x cs → Sh (homeM m φ H2).fz H2 t x (AV.rens φ cs)
  | .int k, x, cs, hs => by
    have e : cs = [.int k x] := hs
    subst e; exact (by simp [AV.rens, AV.ren, Sh])
  | .bool, x, cs, hs => by
    have e : cs = [.bool x] := hs
    subst e; exact (by simp [AV.rens, AV.ren, Sh])
  | .fnil, x, cs, hs => by
    have e : cs = [.nilf] := hs
    subst e; exact (by simp [AV.rens, AV.ren, Sh])
  | .str, x, cs, hs => by
    have e : cs = [.str x] := hs
    subst e; exact (by simp [AV.rens, AV.ren, Sh])
  | .unit, x, cs, hs => by
    have e : cs = [] := hs
    subst e; exact (by simp [AV.rens, Sh])
  | .pair a b, x, cs, hs => by
    obtain ⟨c1, c2, rfl, h1, h2⟩ := hs
    exact ⟨_, _, rens_append φ c1 c2, Sh.home h h1, Sh.home h h2⟩
  | .list t, x, cs, hs => by
    obtain ⟨a, ch, rfl, h1, h2, h3, h4, h5, h6⟩ := hs
    refine ⟨a.ren φ, ch.map (AV.rens φ), by simp [AV.rens], ?_, ?_, ?_, ?_, h5, All2.map_right _ |>.2 (h6.mono fun x c _ _ k => Sh.home h k)⟩
    · cases a <;> simp_all [isSl, AV.ren]
    · cases a <;> simp_all [lenA, AV.ren]
    · rw [← rens_flatten]; exact rowA_ren h h3
    · cases a <;> simp only [AV.ren, inG] at h4 ⊢
      rename_i s j g off n
      intro hn
      have hf := h4 hn
      have ho : own m.H s j := by
        simp only [rowA, if_neg hn] at h3
        split at h3
        · rename_i o ho; exact ⟨o, ho⟩
        · cases h3
      show homeF m φ _ _ = some 0
      rw [homeF_eq h ho]; exact hf
theorem Ow.home (h : Reloc m.H φ (own m.H) H2) : ∀ {t : Ty} {x : t.den} {cs : List AV} {O : List (Nat × Nat)}, Ow m.H t x cs O → Ow H2 t x (AV.rens φ cs) (O.map fun p => φ p.1 p.2) ∧ ∀ p ∈ O, own m.H p.1 p.2
  | .int k, x, cs, O, hs => by obtain ⟨rfl, rfl⟩ := hs; exact ⟨by simp [AV.rens, AV.ren, Ow], by simp⟩
  | .bool, x, cs, O, hs => by obtain ⟨rfl, rfl⟩ := hs; exact ⟨by simp [AV.rens, AV.ren, Ow], by simp⟩
  | .fnil, x, cs, O, hs => by obtain ⟨rfl, rfl⟩ := hs; exact ⟨by simp [AV.rens, AV.ren, Ow], by simp⟩
  | .str, x, cs, O, hs => by obtain ⟨rfl, rfl⟩ := hs; exact ⟨by simp [AV.rens, AV.ren, Ow], by simp⟩
  | .unit, x, cs, O, hs => by obtain ⟨rfl, rfl⟩ := hs; exact ⟨by simp [AV.rens, Ow], by simp⟩
  | .pair a b, x, cs, O, hs => by
    obtain ⟨c1, c2, O1, O2, rfl, rfl, h1, h2⟩ := hs
    obtain ⟨a1, a2⟩ := Ow.home h h1
    obtain ⟨b1, b2⟩ := Ow.home h h2
    exact ⟨⟨_, _, _, _, rens_append φ c1 c2, List.map_append, a1, b1⟩, fun p hp => by
      rcases List.mem_append.1 hp with hp | hp
      · exact a2 p hp
      · exact b2 p hp⟩
  | .list t, l, cs, O, hs => by
    rcases hs with ⟨rfl, rfl, rfl⟩ | ⟨s, j, g, parts, rfl, ho, rfl, hl, hp⟩
    · exact ⟨.inl ⟨by simp [AV.rens, AV.ren], rfl, rfl⟩, by simp⟩
    · have hall : All2 (fun x (p : List AV × List (Nat × Nat)) => (Ow H2 t x (AV.rens φ p.1) (p.2.map fun p => φ p.1 p.2)) ∧ ∀ q ∈ p.2, own m.H q.1 q.2) l parts := hp.mono fun x p _ _ k => Ow.home h k
      refine ⟨.inr ⟨(φ s j).1, (φ s j).2, g, parts.map fun p => (AV.rens φ p.1, p.2.map fun p => φ p.1 p.2), by simp [AV.rens, AV.ren], ?_, ?_, hl, All2.map_right _ |>.2 (hall.mono fun x p _ _ k => k.1)⟩, fun p hp' => ?_⟩
      · have := h.fwd s j _ ⟨_, ho⟩ ho
        simp only at this
        rw [this, rens_flatten]
        simp [List.map_map, Function.comp_def]
      · simp [List.map_flatten, List.map_map, Function.comp_def]
      · rcases List.mem_cons.1 hp' with rfl | hp'
        · exact ⟨_, ho⟩
        · simp only [List.mem_flatten, List.mem_map] at hp'
          obtain ⟨_, ⟨q, hq, rfl⟩, hpq⟩ := hp'
          obtain ⟨i, hi⟩ := List.mem_iff_getElem?.1 hq
          have h5 : i < parts.length := (List.getElem?_eq_some_iff.1 hi).1
          obtain ⟨y, hy, hs'⟩ := hall.get (List.getElem?_eq_getElem (show i < List.length l by rw [hall.length]; exact h5))
          rw [hi] at hy
          injection hy with hy
          subst hy
          exact hs'.2 p hpq
theorem loadA_home (h : Reloc m.H φ (own m.H) H2) {n : Nat} {a : AV} {as : List AV} (hl : loadA m.H n a = some as) : loadA H2 n (a.ren φ) = some (AV.rens φ as) := by
  cases a <;> simp only [loadA, AV.ren] at hl ⊢ <;> try (cases hl; done)
  · rename_i s j g off
    split at hl
    · rename_i o ho
      rw [h.fwd s j o ⟨o, ho⟩ ho]
      simp only
      split at hl
      · rename_i hc
        injection hl with hl
        subst hl
        rw [if_pos (by simpa [AV.rens_map] using hc)]
        simp [AV.rens_map, List.map_take, List.map_drop]
      · cases hl
    · cases hl
  · rename_i cs
    split at hl
    · rename_i hc
      injection hl with hl
      subst hl
      rw [if_pos hc]
      exact congrArg some (AV.rens_id (D := fun _ _ => False) (fun _ _ h => h.elim) _ (ft_refss _)).symm
    · cases hl
mutual
theorem VT.home (h : Reloc m.H φ (own m.H) H2) : ∀ {v : V} {a : AV}, VT m σ v a → VT (homeM m φ H2) σ v (a.ren φ)
  | _, _, .undef a => .undef _
  | _, _, .val t x a hs => by
    have := hs.home h
    simp only [AV.rens] at this
    exact .val t x _ this
  | _, _, .nil t => by simp only [AV.ren]; exact .nil t
  | _, _, .own id off n a h1 h2 => .own id off n _ h1 fun t ht => by
    obtain ⟨o, k1, rfl⟩ := h2 t ht
    exact ⟨_, home_at h k1, by simp [AV.ren, homeM]⟩
  | _, _, .pel id i a h1 h2 => .pel id i _ h1 fun t ht => by
    obtain ⟨o, k1, rfl⟩ := h2 t ht
    exact ⟨_, home_at h k1, by simp [AV.ren, homeM]⟩
  | _, _, .pcell id k a h1 h2 => .pcell id k _ h1 fun ht => by
    obtain ⟨o, k1, rfl⟩ := h2 ht
    exact ⟨_, home_at h k1, by simp [AV.ren, homeM]⟩
  | _, _, .mp id a h1 h2 => .mp id _ h1 fun ht => by
    obtain ⟨o, k1, rfl⟩ := h2 ht
    exact ⟨_, home_at h k1, by simp [AV.ren, homeM]⟩
  | _, _, .pv cs a as h1 h2 h3 => by
    refine .pv cs _ _ (loadA_home h h1) (fun s j g off e => ?_) (VTL.home h h3)
    cases a <;> simp only [AV.ren] at e <;> try (cases e; done)
    rename_i s' j' g' off'
    have hf := h2 s' j' g' off' rfl
    have ho : own m.H s' j' := by
      simp only [loadA] at h1
      split at h1
      · rename_i o ho; exact ⟨o, ho⟩
      · cases h1
    injection e with e1 e2
    show homeF m φ s j = some 0
    rw [← e1, ← e2, homeF_eq h ho]; exact hf
  | _, _, .agg cs as k => by simp only [AV.ren]; exact .agg _ _ (VTL.home h k)
  | _, _, .tup cs as k => by simp only [AV.ren]; exact .tup _ _ (VTL.home h k)
  | _, _, .fn f cs as k => by simp only [AV.ren]; exact .fn f _ _ (VTL.home h k)
  | _, _, .nilp => by simp only [AV.ren]; exact .nilp
theorem VTL.home (h : Reloc m.H φ (own m.H) H2) : ∀ {v : List V} {a : List AV}, VTL m σ v a → VTL (homeM m φ H2) σ v (AV.rens φ a)
  | _, _, .nil => by simp only [AV.rens]; exact .nil
  | _, _, .cons v a vs as k1 k2 => by simp only [AV.rens]; exact .cons _ _ _ _ (VT.home h k1) (VTL.home h k2)
end
theorem Me.home (h : Reloc m.H φ (own m.H) H2) {t : Ty} : ∀ {l : List (Int × t.den)} {cs : List AV}, Me m.fz m.H t l cs → Me (homeM m φ H2).fz (homeM m φ H2).H t l (AV.rens φ cs)
  | [], _, e => by simp only [Me] at e; subst e; simp [AV.rens, Me]
  | p :: l, _, ⟨a, cs', e, h1, h2, h3⟩ => by
    subst e
    have h4 := h1.home h
    simp only [AV.rens] at h4
    exact ⟨a.ren φ, AV.rens φ cs', by simp [AV.rens, AV.ren], h4, by rw [AV.ren_isCell]; exact h2, Me.home h h3⟩
theorem St.home (h : Reloc m.H φ (own m.H) H2) (hS : St m σ) : St (homeM m φ H2) σ := by
  have hF : ∀ t j k, m.F t j = some k → (homeM m φ H2).F (φ t j).1 (φ t j).2 = some k := fun t j k e => by
    show homeF m φ _ _ = _
    rw [homeF_eq h (hS.dom t j k e)]; exact e
  refine ⟨fun id o ho => ?_, fun t j k hk => ?_⟩
  · have h1 := hS.obj id o ho
    cases o with
    | gone => trivial
    | mpt t l =>
      obtain ⟨g, as, k1, k2, k3⟩ := h1
      exact ⟨g, _, home_at h k1, hF _ _ _ k2, k3.home h⟩
    | hole t l i v =>
      obtain ⟨g, parts, c, k1, k2⟩ := h1
      have hown : ∀ q ∈ m.ι id :: (parts.map (·.2)).flatten, m.F q.1 q.2 = some (id + 1) := fun q hq => by
        rcases List.mem_cons.1 hq with rfl | hq
        · exact k1.own
        · exact k1.foot q hq
      refine ⟨g, parts.map fun p => (AV.rens φ p.1, p.2.map fun p => φ p.1 p.2), _, ⟨?_, hF _ _ _ k1.own, k1.most', by simpa using k1.len, fun j x p e1 e2 e3 => ?_, ?_, ?_, fun p hp => ?_⟩, k2.home h⟩
      · rw [home_at h k1.at', rens_flatten]
        simp [List.map_map, Function.comp_def]
      · rw [List.getElem?_map, Option.map_eq_some_iff] at e2
        obtain ⟨p', e4, rfl⟩ := e2
        exact ((k1.row j x p' e1 e4 e3).home h).1
      · rw [List.getElem?_map, k1.hol]; simp [AV.rens]
      · have e : (homeM m φ H2).ι id :: ((parts.map fun p => (AV.rens φ p.1, p.2.map fun p => φ p.1 p.2)).map (·.2)).flatten = (m.ι id :: (parts.map (·.2)).flatten).map fun p => φ p.1 p.2 := by
          simp [homeM, List.map_flatten, List.map_map, Function.comp_def]
        rw [e]
        refine List.pairwise_map.2 (k1.nd.imp_of_mem fun {a b} ha hb hne e => hne ?_)
        obtain ⟨e1, e2⟩ := h.inj _ _ _ _ (hS.dom _ _ _ (hown a ha)) (hS.dom _ _ _ (hown b hb)) e
        exact Prod.ext e1 e2
      · have e : ((parts.map fun p => (AV.rens φ p.1, p.2.map fun p => φ p.1 p.2)).map (·.2)).flatten = ((parts.map (·.2)).flatten).map fun p => φ p.1 p.2 := by
          simp [List.map_flatten, List.map_map, Function.comp_def]
        rw [e] at hp
        obtain ⟨q, hq, rfl⟩ := List.mem_map.1 hp
        exact hF _ _ _ (k1.foot q hq)
    | vars vs =>
      obtain ⟨g, z, as, k1, k2, k3⟩ := h1
      exact ⟨g, z, _, home_at h k1, hF _ _ _ k2, k3.home h⟩
    | frz t l =>
      obtain ⟨g, ch, k1, k2, k3, k4⟩ := h1
      refine ⟨g, ch.map (AV.rens φ), ?_, hF _ _ _ k2, k3, All2.map_right _ |>.2 (k4.mono fun x c _ _ k => k.home h)⟩
      rw [home_at h k1, rens_flatten]
    | arr t l u =>
      cases u with
      | false =>
        obtain ⟨g, ch, k1, k2, k3, k4⟩ := h1
        refine ⟨g, ch.map (AV.rens φ), ?_, hF _ _ _ k2, k3, All2.map_right _ |>.2 (k4.mono fun x c _ _ k => k.home h)⟩
        rw [home_at h k1, rens_flatten]
      | true =>
        obtain ⟨o, O, k1, k2, k3, k4⟩ := h1
        obtain ⟨o1, o2⟩ := k2.home h
        refine ⟨_, O.map fun p => φ p.1 p.2, home_at h k1, ?_, ?_, fun p hp => ?_⟩
        · simpa [AV.rens, AV.ren, homeM] using o1
        · refine List.pairwise_map.2 (k3.imp_of_mem fun {a b} ha hb hne e => hne ?_)
          obtain ⟨e1, e2⟩ := h.inj _ _ _ _ (o2 a ha) (o2 b hb) e
          exact Prod.ext e1 e2
        · obtain ⟨q, hq, rfl⟩ := List.mem_map.1 hp
          exact hF _ _ _ (k4 q hq)
  · simp only [homeM, homeF] at hk ⊢
    split at hk
    · rename_i hx
      obtain ⟨⟨o, ho⟩, hφ⟩ := hx.choose_spec
      have := h.fwd _ _ o ⟨o, ho⟩ ho
      rw [hφ] at this
      exact ⟨_, this⟩
    · cases hk
end
end Go.Proofs.YtffiddkignmobaaDoorTv
end
section
/- TV, part Xa: objects that were handed over stay where they are, what is new comes home. -/
namespace Go.Proofs.YtffiddkignmobaaDoorTv
open Go.Proofs.YtffiddkignmobaaDoorVe
def renOb (φ : Nat → Nat → Nat × Nat) (o : Ob) : Ob := ⟨o.g, o.z, AV.rens φ o.cells⟩
def homeI (H' : Heap) (M s L : Nat) : Heap := fun t => if t = s then (objs H' M L).map (renOb (homeφ H' M s)) else if t < M then (H' t).map (renOb (homeφ H' M s)) else []
theorem fin_io {H H' : Heap} {s M L : Nat} {r : AV} {R : AV → Heap → Prop} (hM : ∀ t, M ≤ t → H t = []) (hs : H s = []) (hsM : s < M) (hfree : ∀ t, L ≤ t → H' t = []) (hold : ∀ t i, t < M → (own H' t i ↔ own H t i))
    (hclo : ∀ t i o, H'.ob t i = some o → AV.refss (own H') o.cells) (hr : r.refs (own H'))
    (h : ∀ φ H2, Reloc H' φ (own H') H2 → (∀ t i, own H t i → φ t i = (t, i)) → (∀ t i, t ≠ s → ¬ own H t i → H2.ob t i = none) → R (r.ren φ) H2) : Fin H s r H' R := by
  have hlt : ∀ {t i}, own H t i → t < M := fun hd => own_lt hM hd
  have hφ : ∀ t i, own H t i → homeφ H' M s t i = (t, i) := fun t i hd => by simp [homeφ, hlt hd]
  have hns : ∀ {t i o}, H'.ob t i = some o → t ≠ s := fun {t i o} ho e => by
    subst e
    obtain ⟨o', ho'⟩ := (hold t i hsM).1 ⟨o, ho⟩
    simp [Heap.ob, hs] at ho'
  have hL : ∀ {t i o}, H'.ob t i = some o → t < L := fun {t i o} ho => by
    rcases Nat.lt_or_ge t L with h1 | h1
    · exact h1
    · simp [Heap.ob, hfree t h1] at ho
  have hempty : ∀ t, t < M → H t = [] → H' t = [] := fun t ht e => by
    refine List.eq_nil_iff_length_eq_zero.2 (Classical.byContradiction fun c => ?_)
    have : (H' t)[0]? = some ((H' t)[0]'(by omega)) := List.getElem?_eq_getElem (by omega)
    obtain ⟨o, ho⟩ := (hold t 0 ht).1 ⟨_, this⟩
    simp [Heap.ob, e] at ho
  have hrel : Reloc H' (homeφ H' M s) (own H') (homeI H' M s L) := by
    refine ⟨fun t i o _ ho => ?_, fun t i o ho => ?_, fun t i t' i' hd hd' e => ?_, fun t i o _ ho => hclo t i o ho⟩
    · rcases Nat.lt_or_ge t M with h1 | h1
      · simp only [homeφ, h1, if_true, Heap.ob, homeI, hns ho, if_false, List.getElem?_map]
        have ho' : (H' t)[i]? = some o := ho
        rw [ho']; rfl
      · have h2 : ¬ t < M := by omega
        simp only [homeφ, h2, if_false, Heap.ob, homeI, if_true, List.getElem?_map]
        have hl := hL ho
        have e : M + (t - M) = t := by omega
        rw [objs_get H' M (k := t - M) (by omega) (by rw [e]; exact ho)]
        rfl
    · by_cases e : t = s
      · subst e
        simp only [Heap.ob, homeI, if_true, List.getElem?_map, Option.map_eq_some_iff] at ho
        obtain ⟨o0, h1, _⟩ := ho
        obtain ⟨k, i0, h2, h3, h4⟩ := objs_of H' M h1
        exact ⟨M + k, i0, o0, ⟨o0, h4⟩, h4, by
          have : ¬ (M + k < M) := by omega
          simp [homeφ, h3, this]⟩
      · by_cases h1 : t < M
        · simp only [Heap.ob, homeI, e, if_false, h1, if_true, List.getElem?_map, Option.map_eq_some_iff] at ho
          obtain ⟨o0, h2, _⟩ := ho
          exact ⟨t, i, o0, ⟨o0, h2⟩, h2, by simp [homeφ, h1]⟩
        · simp [Heap.ob, homeI, e, h1] at ho
    · obtain ⟨o, ho⟩ := hd
      obtain ⟨o', ho'⟩ := hd'
      unfold homeφ at e
      split at e <;> split at e <;> rename_i h1 h2 <;> injection e with e1 e2
      · exact ⟨e1, e2⟩
      · exact absurd e1 (hns ho)
      · exact absurd e1.symm (hns ho')
      · have k1 : M + (t - M) = t := by omega
        have k2 : M + (t' - M) = t' := by omega
        obtain ⟨h3, h4⟩ := objs_inj H' M (by rw [k1]; exact ho) (by rw [k2]; exact ho') e2
        exact ⟨by omega, h4⟩
  refine ⟨homeφ H' M s, own H', homeI H' M s L, hrel, fun t i o ho => ⟨(hold t i (hlt ⟨o, ho⟩)).2 ⟨o, ho⟩, hφ t i ⟨o, ho⟩⟩, hr, fun t h1 e => ?_, h _ _ hrel hφ fun t i h1 h2 => ?_⟩
  · simp only [homeI, h1, if_false]
    split
    · rename_i ht; rw [hempty t ht e]; rfl
    · rfl
  · simp only [Heap.ob, homeI, h1, if_false]
    split
    · rename_i ht
      have : H'.ob t i = none := by
        cases h3 : H'.ob t i with
        | none => rfl
        | some o => exact absurd ((hold t i ht).1 ⟨o, h3⟩) h2
      simp only [Heap.ob] at this
      rw [List.getElem?_map, this]; rfl
    · rfl
end Go.Proofs.YtffiddkignmobaaDoorTv
end
section
/- TV, part Y: functions. -/
namespace Go.Proofs.YtffiddkignmobaaDoorTv
open Go.Proofs.YtffiddkignmobaaDoorVe
def env0T (args : List V) : EnvV := fun t => args[t]?.getD .undef
def resL (tab : List (Nat × TE)) : List ResultVar → EnvV → List Obj → (List V → Prop) → Prop
  | [], _, _, k => k []
  | .tmp t :: l, E, σ, k => force (E t) fun v => resL tab l E σ fun vs => k (v :: vs)
  | .cell a t :: l, E, σ, k => match look tab t, E a with
    | some e, .pcell id j => match σ[id]? with
      | some (.vars ws) => Nat.ble (j + e.ty.z) ws.length = true ∧ match e.ty.isRec with
        | true => resL tab l E σ fun vs => k (.agg ((ws.drop j).take e.ty.z) :: vs)
        | false => force (ws.getD j .undef) fun v => resL tab l E σ fun vs => k (v :: vs)
      | _ => False
    | _, _ => False
def resT (tab : List (Nat × TE)) (l : Array ResultVar) (E : EnvV) (σ : List Obj) (k : V → Prop) : Prop := resL tab l.toList E σ fun vs => match vs with
  | [v] => k v
  | vs => k (.tup vs)
section
variable {P : Program} {tab : List (Nat × TE)} {m : MS} {E : EnvV} {σ : List Obj} {Ev : Env}
theorem resL_sound (hT : TabOk P tab) (hS : St m σ) (hE : ∀ t, VT m σ (E t) (Ev t)) : ∀ (l : List ResultVar) {k : List V → Prop}, resL tab l E σ k → ∃ vs as, Go.Proofs.YtffiddkignmobaaDoorVe.resL P Ev m.H l = some as ∧ VTL m σ vs as ∧ k vs
  | [], k, h => ⟨[], [], rfl, .nil, h⟩
  | .tmp t :: l, k, h => by
    obtain ⟨vs, as, h1, h2, h3⟩ := resL_sound hT hS hE l (force_eq h)
    exact ⟨E t :: vs, Ev t :: as, by simp [Go.Proofs.YtffiddkignmobaaDoorVe.resL, res1, h1], .cons _ _ _ _ (hE t) h2, h3⟩
  | .cell a t :: l, k, h => by
    unfold resL at h
    split at h
    · rename_i e id j ht e1
      split at h
      · rename_i ws e2
        obtain ⟨hj0, h⟩ := h
        have hj := Nat.le_of_ble_eq_true hj0
        have ld : ∀ {v : V} {k' : V → Prop}, loadT σ e (E a) (fun v σ' => σ' = σ ∧ k' v) → ∃ av v, opE P 0 Ev.ev m.H (.load t (.tmp a)) = some (av, m.H) ∧ VT m σ v av ∧ k' v := fun {v k'} hl => by
          have hd := hT t e ht
          have ha := hE a
          rw [e1] at ha hl
          simp only [loadT, loadT0, e2] at hl
          obtain ⟨g, z, as, k1, k2, k3⟩ := hS.obj id _ e2
          obtain ⟨o, q1, q2⟩ := ha.pcell_inv (kind_vars e2)
          rw [k1] at q1
          injection q1 with q1
          subst q1
          have hl0 : loadA m.H e.ty.z (Ev a) = some ((as.drop j).take e.ty.z) := by
            rw [q2]
            simp only [loadA, show m.H.ob (m.ι id).1 (m.ι id).2 = _ from k1]
            rw [if_pos ⟨trivial, by rw [← k3.length]; exact hj⟩]
          obtain ⟨_, hl⟩ := hl
          split at hl
          · rename_i hr
            exact ⟨_, _, opE_loadAgg (ρv := Ev.ev) hd.1 ((isAgg_rec hd.2).trans hr) hl0, .agg _ _ ((k3.drop j).take _), hl.2⟩
          · rename_i hr'
            rw [z_one hr'] at hj
            have hv : ws[j]? = some (ws.getD j .undef) := by
              rw [List.getD_eq_getElem?_getD, List.getElem?_eq_getElem (by omega)]; rfl
            obtain ⟨y, y1, y2⟩ := k3.get hv
            have e3 : (as.drop j).take 1 = [y] := by
              obtain ⟨h5, h6⟩ := List.getElem?_eq_some_iff.1 y1
              rw [List.drop_eq_getElem_cons h5, h6]; simp
            rw [z_one hr', e3] at hl0
            exact ⟨_, _, opE_load1 (ρv := Ev.ev) hd.1 ((isAgg_rec hd.2).trans hr') (by rw [z_one hr']; exact hl0), y2, hl.2⟩
        have fin : ∀ {v : V}, loadT σ e (E a) (fun v' σ' => σ' = σ ∧ v' = v) → (resL tab l E σ fun vs => k (v :: vs)) → ∃ vs as, Go.Proofs.YtffiddkignmobaaDoorVe.resL P Ev m.H (.cell a t :: l) = some as ∧ VTL m σ vs as ∧ k vs := fun {v} hl h => by
          obtain ⟨av, v', h1, h2, rfl⟩ := ld (v := v) hl
          obtain ⟨vs, as, k1, k2, k3⟩ := resL_sound hT hS hE l h
          exact ⟨v' :: vs, av :: as, by simp [Go.Proofs.YtffiddkignmobaaDoorVe.resL, res1, h1, k1], .cons _ _ _ _ h2 k2, k3⟩
        split at h
        · rename_i hr
          exact fin (v := .agg ((ws.drop j).take e.ty.z)) (by simp [loadT, loadT0, e1, e2, hj0, hr]) h
        · rename_i hr
          exact fin (v := ws.getD j .undef) (by simp [loadT, loadT0, e1, e2, hj0, hr]) (force_eq h)
      · exact h.elim
    · exact h.elim
theorem resT_sound (hT : TabOk P tab) (hS : St m σ) (hE : ∀ t, VT m σ (E t) (Ev t)) {l : Array ResultVar} {k : V → Prop} (h : resT tab l E σ k) : ∃ v a, resA P l Ev m.H = some a ∧ VT m σ v a ∧ k v := by
  obtain ⟨vs, as, h1, h2, h3⟩ := resL_sound hT hS hE l.toList h
  unfold resA
  rw [h1]
  match vs, as, h2, h3 with
  | [v], [a], .cons _ _ _ _ h2 .nil, h3 => exact ⟨v, a, rfl, h2, h3⟩
  | [], [], .nil, h3 => exact ⟨_, _, rfl, .tup _ _ .nil, h3⟩
  | v :: w :: vs, a :: b :: as, h2, h3 => exact ⟨_, _, rfl, .tup _ _ h2, h3⟩
theorem env0_vt {args : List V} {as : List AV} (h : VTL m σ args as) : ∀ t, VT m σ ((env0T args) t) ((env0 as) t) := fun t => by
  unfold env0T env0
  cases e : args[t]? with
  | none => exact .undef _
  | some v =>
    obtain ⟨a, h1, h2⟩ := h.get e
    rw [h1]; exact h2
theorem encC_refs (D : Nat → Nat → Prop) : ∀ (t : Ty) (x : t.den), AV.refss D (encC t x)
  | .int k, x => by simp [encC, AV.refss, AV.refs]
  | .bool, x => by simp [encC, AV.refss, AV.refs]
  | .fnil, x => by simp [encC, AV.refss, AV.refs]
  | .str, x => by simp [encC, AV.refss, AV.refs]
  | .unit, x => by simp [encC, AV.refss]
  | .list t, x => by simp [encC, AV.refss]
  | .pair a b, x => by
    simp only [encC]
    refine AV.refss_all.2 fun y hy => ?_
    rcases List.mem_append.1 hy with hy | hy
    · exact AV.refss_all.1 (encC_refs D a x.1) y hy
    · exact AV.refss_all.1 (encC_refs D b x.2) y hy
mutual
theorem encV_refs (D : Nat → Nat → Prop) : ∀ v : V, (encV v).refs D
  | .val t x => by
    simp only [encV]
    have := encC_refs D t x
    cases h : encC t x with
    | nil => simp [AV.refs]
    | cons a l => rw [h] at this; exact this.1
  | .nil t => by simp [encV, AV.refs]
  | .agg cs => by simp only [encV, AV.refs]; exact encVs_refs D cs
  | .tup cs => by simp only [encV, AV.refs]; exact encVs_refs D cs
  | .undef => by simp [encV, AV.refs]
  | .own .. => by simp [encV, AV.refs]
  | .pel .. => by simp [encV, AV.refs]
  | .pcell .. => by simp [encV, AV.refs]
  | .mp .. => by simp [encV, AV.refs]
  | .pv .. => by simp [encV, AV.refs]
  | .fn .. => by simp [encV, AV.refs]
  | .nilp => by simp [encV, AV.refs]
theorem encVs_refs (D : Nat → Nat → Prop) : ∀ v : List V, AV.refss D (encVs v)
  | [] => by simp [encVs, AV.refss]
  | v :: vs => by simp only [encVs, AV.refss]; exact ⟨encV_refs D v, encVs_refs D vs⟩
end
theorem start {m0 : MS} {σ0 : List Obj} {M : Nat} (h : St m0 σ0) (hM : ∀ t, M ≤ t → m0.H t = []) {args : List V} {as : List AV} (hv : VTL m0 σ0 args as) : TR m0 σ0 M (env0T args) σ0 M (env0 as) m0 :=
  ⟨h, env0_vt hv, hM, fun _ _ _ _ => ⟨rfl, rfl⟩, Kp.refl m0 σ0, Nat.le_refl _⟩
theorem enters_of {f : Nat} {fn : Func} {c : Code} (hf : P.funcs[f]? = some fn) (hc : fn.body = some c) (hnm : (fn.name == "runtime.NumGoroutine") = false) : Enters P f := fun as w => by
  have hne : fn.name ≠ "runtime.NumGoroutine" := by simpa using hnm
  simp [callFunc, run_bind, program, Sem.run, hf, hne, hc, run_pure]
/-- A function whose result holds no objects. -/
theorem conS_of (hm : P.follows .mixedOrders = true) (hT : TabOk P tab) {f : Nat} {fn : Func} {c : Code} {args : List V} {rs : V} (hf : P.funcs[f]? = some fn) (hc : fn.body = some c) (hnm : (fn.name == "runtime.NumGoroutine") = false) (hb : bnd fn.ntmps c = true) (hn : args.length ≤ fn.ntmps) (hsc : scalV rs = true)
    (h : wpT P tab 0 c (env0T args) [] fun e E σ => (e = .normal ∨ e = .ret) ∧ resT tab fn.results E σ fun v => v = rs) : ConS P f args rs := by
  refine ⟨hsc, enters_of hf hc hnm, fun m s avs hno hs hS hv => ?_⟩
  refine callV_of hm hf hc hnm hb (by rw [← hv.length]; exact hn) fun M hsM hM _ _ hclo => ?_
  refine wpT_sound hT (σ0 := []) c (start hS hM hv) h fun e L' Ev' m' E' σ' r ⟨he, hr⟩ => ⟨he, ?_⟩
  obtain ⟨v, a, h1, h2, rfl⟩ := resT_sound hT r.st r.env hr
  have ha := scal_enc hsc h2
  refine ⟨a, h1, fin_pure hclo (fun t i o ho => ?_) (by rw [ha]; exact encV_refs _ _) ⟨ha, rfl⟩⟩
  rw [(r.base t i (ob_lt hM ho) (hno t i)).1]; exact ho
/-- A function that may be handed objects. -/
theorem conI_of (hm : P.follows .mixedOrders = true) (hT : TabOk P tab) {f : Nat} {fn : Func} {c : Code} {args : List V} {rs : V} {σ0 σ1 : List Obj} (hf : P.funcs[f]? = some fn) (hc : fn.body = some c) (hnm : (fn.name == "runtime.NumGoroutine") = false) (hb : bnd fn.ntmps c = true) (hn : args.length ≤ fn.ntmps)
    (h : wpT P tab σ0.length c (env0T args) σ0 fun e E σ => (e = .normal ∨ e = .ret) ∧ resT tab fn.results E σ fun v => Fits σ0.length (fun _ => v) σ [(0, rs)] σ1) : ConI P f args σ0 rs σ1 := by
  refine ⟨enters_of hf hc hnm, fun m s avs hno hs hS hv => ?_⟩
  refine callV_of2 hm hf hc hnm hb (by rw [← hv.length]; exact hn) fun M hsM hM _ _ hclo => ?_
  refine wpT_sound hT c (start hS hM hv) h fun e L' Ev' m' E' σ' r ⟨he, hr⟩ => ⟨he, ?_⟩
  obtain ⟨v, a, h1, h2, hfit⟩ := resT_sound hT r.st r.env hr
  refine ⟨a, h1, fun hfree hclo2 hper href => ?_⟩
  obtain ⟨m1, e1, f1, f2, f3, f4, f5⟩ := fit_sound (s := L') (Ev := fun _ => a) r.st (fun _ => h2) (r.free L' (Nat.le_refl _)) hfit
  have hv1 : VT m1 σ1 rs a := f2 0
  have hlo : ∀ t j, own m.H t j → t < M := fun t j h => own_lt hM h
  have hsame : ∀ t j, t < M → (∀ k, m.F t j ≠ some (k + 1)) → m'.H.ob t j = m.H.ob t j ∧ m'.F t j = m.F t j := fun t j => r.base t j
  have hold : ∀ t i, t < M → (own m'.H t i ↔ own m.H t i) := fun t i ht => ⟨fun ⟨o, ho⟩ => Classical.byContradiction fun c => by
    have hno' : ∀ k, m.F t i ≠ some (k + 1) := fun k e => c (hS.dom t i _ e)
    rw [(hsame t i ht hno').1] at ho
    exact c ⟨o, ho⟩, hper t i⟩
  refine fin_io hM hs hsM hfree hold hclo2 href fun φ H2 hre hφ h6 => ?_
  rw [← e1] at hre hold
  have hns : ∀ t j, own m.H t j → t ≠ s := fun t j ⟨o, ho⟩ e => by
    rw [e] at ho; simp [Heap.ob, hs] at ho
  -- what was there and was not handed over is as it was
  have hbase : ∀ t j, own m.H t j → (∀ k, m.F t j ≠ some (k + 1)) → H2.ob t j = m.H.ob t j ∧ (homeM m1 φ H2).F t j = m.F t j := fun t j ho hn => by
    have ht := hlo t j ho
    obtain ⟨b1, b2⟩ := hsame t j ht hn
    obtain ⟨o, ho'⟩ := ho
    have h8 : m1.H.ob t j = some o := by rw [e1, b1]; exact ho'
    have h9 := hre.fwd t j o ⟨o, h8⟩ h8
    have h10 := homeF_eq hre (t := t) (j := j) ⟨o, h8⟩
    rw [hφ t j ⟨o, ho'⟩] at h9 h10
    refine ⟨?_, h10.trans ((f3 t j (fun k => by rw [b2]; exact hn k)).trans b2)⟩
    rw [h9, AV.rens_id (fun s' j' hd => hφ s' j' hd) _ (hclo t j o ho'), ho']
  refine ⟨homeM m1 φ H2, rfl, f1.home hre, ⟨fun t j g => ?_, f4, fun id κ hid hκ => ?_⟩, fun t j ht hn => ?_, hv1.home hre⟩
  · have g' : m.F t j = some 0 := g
    obtain ⟨a1, a2⟩ := hbase t j (hS.dom t j 0 g) (fun k e => by rw [g'] at e; injection e with e; omega)
    exact ⟨a2.trans g, a1⟩
  · obtain ⟨b1, b2⟩ := f5 id hid
    rw [b1] at hκ
    obtain ⟨c1, c2, c3⟩ := r.io.live id κ hid hκ
    have hι : (homeM m1 φ H2).ι id = m.ι id := by
      obtain ⟨_, o, ho⟩ := OT.owner hS c1
      show φ (m1.ι id).1 (m1.ι id).2 = _
      rw [b2 κ hκ, c2, hφ _ _ ⟨o, ho⟩]
    refine ⟨c1, hι, fun o ho => ?_⟩
    obtain ⟨o', d1, d2⟩ := c3 o ho
    have d3 : m1.at id = some o' := by unfold MS.at at d1 ⊢; rw [e1, b2 κ hκ]; exact d1
    exact ⟨_, home_at hre d3, d2⟩
  · by_cases ho : own m.H t j
    · exact hbase t j ho hn
    · refine ⟨?_, ?_⟩
      · show H2.ob t j = _
        rw [h6 t j ht ho]
        cases h : m.H.ob t j with
        | none => rfl
        | some o => exact absurd ⟨o, h⟩ ho
      · have h1 : m.F t j = none := by
          cases h : m.F t j with
          | none => rfl
          | some k => exact absurd (hS.dom t j k h) ho
        rw [h1]
        show homeF m1 φ t j = none
        unfold homeF
        split
        · rename_i hx
          obtain ⟨⟨o, hq⟩, hφq⟩ := hx.choose_spec
          have := hre.fwd _ _ o ⟨o, hq⟩ hq
          rw [hφq] at this
          simp only at this
          rw [h6 t j ht ho] at this
          cases this
        · rfl
/-- A function that makes its result. -/
theorem conT_of (hm : P.follows .mixedOrders = true) (hT : TabOk P tab) {f : Nat} {fn : Func} {c : Code} {args : List V} {rs : V} {σ1 : List Obj} (hf : P.funcs[f]? = some fn) (hc : fn.body = some c) (hnm : (fn.name == "runtime.NumGoroutine") = false) (hb : bnd fn.ntmps c = true) (hn : args.length ≤ fn.ntmps)
    (h : wpT P tab 0 c (env0T args) [] fun e E σ => (e = .normal ∨ e = .ret) ∧ resT tab fn.results E σ fun v => Fits 0 (fun _ => v) σ [(0, rs)] σ1) : ConT P f args rs σ1 := by
  obtain ⟨h1, h2⟩ := conI_of (σ0 := []) hm hT hf hc hnm hb hn h
  exact ⟨h1, fun m s avs hno hs hS hv => h2 m s avs (fun t j k e => absurd e (hno t j k)) hs hS hv⟩
end
end Go.Proofs.YtffiddkignmobaaDoorTv
end
