/- A logic of abstract values and heaps over the model's steps, proved sound: for every program that follows mixed orders. -/
import Derived.Test.YtffiddkignmobaaDoorVe1
import Derived.MapKept
set_option linter.unusedVariables false
set_option linter.unusedSimpArgs false
section
/- VE, part J: the remaining operations, and all of them joined. -/
namespace Go.Proofs.YtffiddkignmobaaDoorVe
theorem guard_ok {P : Program} {op : BinOp} {t : TypeId} {x y : Operand} {a b : Value} (h : ∀ cs ds, ¬ (a = .agg cs ∧ b = .agg ds)) (h2 : ¬ (a = .nilIface ∧ b = .nilIface)) (w : World) : (eqGuard op t x y a b).run P w = .ok () w := by
  unfold eqGuard
  cases op <;> first
    | rfl
    | (cases a <;> cases b <;> first
        | rfl
        | exact absurd ⟨rfl, rfl⟩ h2
        | exact absurd ⟨rfl, rfl⟩ (h _ _))
theorem op_bin {P : Program} {x : Cx} (hR : Rel x) {op : BinOp} {t : TypeId} {p q : Operand} {a b c : AV} {u v : Value} (hu : VR x a u) (hv : VR x b v) (h : binA op a b = some c) :
    DoneV P x (do eqGuard op t p q u v; binOp op t u v) c x.H := by
  cases hu <;> cases hv <;> simp only [binA] at h <;> try cases h
  case int.int k n k' m =>
    have hg := guard_ok (P := P) (op := op) (t := t) (x := p) (y := q) (a := .int k n) (b := .int k' m) (by simp) (by simp) x.w
    cases op <;> simp only at h
    case shl =>
      split at h
      · obtain rfl := Option.some.inj h
        refine DoneV.same hR (u := .int k (k.wrap (n * 2 ^ (min m.toNat k.bits)))) ?_ (.int _ _)
        have hm : ¬ m < 0 := by omega
        simp only [run_bind, hg, binOp, Op.shift, hm, if_false, run_pure]
      · cases h
    case shr =>
      split at h
      · obtain rfl := Option.some.inj h
        refine DoneV.same hR (u := .int k (n.fdiv (2 ^ (min m.toNat k.bits)))) ?_ (.int _ _)
        have hm : ¬ m < 0 := by omega
        simp only [run_bind, hg, binOp, Op.shift, hm, if_false, run_pure]
      · cases h
    all_goals
      split at h
      · cases h
      · rename_i hk
        simp only [ne_eq, Decidable.not_not] at hk
        subst hk
        first
        | (obtain rfl := Option.some.inj h
           refine DoneV.same hR (u := .int k _) ?_ (.int _ _)
           simp only [run_bind, hg, binOp, ne_eq, not_true_eq_false, if_false, Op.intArith, Op.intBits, run_pure]
           done)
        | (obtain rfl := Option.some.inj h
           refine DoneV.same hR (u := .bool _) ?_ (.bool _)
           simp only [run_bind, hg, binOp, ne_eq, not_true_eq_false, if_false, Op.intCmp, run_pure]
           done)
        | (split at h
           · cases h
           · rename_i hz
             obtain rfl := Option.some.inj h
             refine DoneV.same hR (u := .int k _) ?_ (.int _ _)
             simp only [run_bind, hg, binOp, ne_eq, not_true_eq_false, if_false, Op.intDiv, hz, run_pure])
        | cases h
  case str.str s r =>
    have hg := guard_ok (P := P) (op := op) (t := t) (x := p) (y := q) (a := .string s) (b := .string r) (by simp) (by simp) x.w
    cases op <;> simp only at h <;> try cases h
    case add =>
      split at h
      · obtain rfl := Option.some.inj h
        refine DoneV.same hR (u := .string (s ++ r)) ?_ (.str _)
        have hm : ¬ (((s.size + r.size : Nat) : Int) > IntKind.i64.max) := by
          unfold IntKind.max; simp [IntKind.signed, IntKind.bits]; omega
        simp only [run_bind, hg, binOp, Op.stringOp, hm, if_false, run_pure]
      · cases h
    case eql => exact DoneV.same hR (u := .bool _) (by simp only [run_bind, hg, binOp, Op.stringOp, run_pure]) (.bool _)
    case neq => exact DoneV.same hR (u := .bool _) (by simp only [run_bind, hg, binOp, Op.stringOp, run_pure]) (.bool _)
theorem tdOf_bool {P : Program} {d : TypeDesc} (h : tdOf P d = .bool) : d = .bool := by
  cases d <;> simp [tdOf] at h
  rfl
theorem equal_step (P : Program) (t : TypeId) (u v : Value) : Op.equal t u v = Op.equalIn (9999 + 1) t u v := rfl
theorem beq_int_field {P : Program} {t : TypeId} (h : (match P.underlying t with | some (.int _) => true | _ => false) = true) : ∃ k, P.underlying t = some (.int k) := by
  split at h
  · rename_i k e; exact ⟨k, e⟩
  · cases h
theorem run_part_one {P : Program} {t : TypeId} {k : IntKind} (h : P.underlying t = some (.int k)) {cs : Array Value} {i : Nat} {v : Value} (hv : cs[i]? = some v) (w : World) : (part t cs i).run P w = .ok v w := by
  simp only [part, run_bind, run_isAgg h]
  simp only [tdOf, TD.isAgg, Bool.false_eq_true, if_false, hv, run_pure]
theorem run_equalIn_ints {P : Program} (w : World) (d : Nat) {t : TypeId} {k k1 : IntKind} (a b : Int) (h : P.underlying t = some (.int k)) : (Op.equalIn (d + 1) t (.int k1 a) (.int k1 b)).run P w = .ok (a == b) w := by
  simp [Op.equalIn, run_underlying h]
theorem eqFields_spec {P : Program} {x : Cx} {us vs : List Value} (w : World) : ∀ (fs : List Field) (i : Nat) (as bs : List AV), okFs P fs i = true → fs.length = as.length → VRL x as (us.drop i) → VRL x bs (vs.drop i) → ∀ r, eqAs as bs = some r →
    (Op.eqFields 9999 us.toArray vs.toArray fs).run P w = .ok r w
  | [], i, [], bs, _, _, _, _, r, h => by
    cases bs with
    | nil => simp only [eqAs, Option.some.injEq] at h; subst h; simp [Op.eqFields]
    | cons b bs => simp [eqAs] at h
  | f :: fs, i, a :: as, bs, hok, hl, ha, hb, r, h => by
    simp only [okFs, Bool.and_eq_true, bne_iff_ne, ne_eq] at hok
    obtain ⟨⟨⟨h1, h2⟩, h3⟩, h4⟩ := hok
    have h2 : f.offset = i := Nat.eq_of_beq_eq_true h2
    obtain ⟨k, hk⟩ := beq_int_field h3
    unfold eqAs at h
    split at h
    · contradiction
    · rename_i k1 n xs k2 n' ys e1
      injection e1 with e1 e2
      subst e1 e2
      split at h
      case isFalse => cases h
      rename_i hkk
      subst hkk
      cases hr : eqAs as ys with
      | none => rw [hr] at h; cases h
      | some q =>
        rw [hr] at h
        obtain rfl := Option.some.inj h
        obtain ⟨u, hu1, hu2⟩ := ha.get (i := 0) rfl
        obtain ⟨v, hv1, hv2⟩ := hb.get (i := 0) rfl
        have hu3 : us[i]? = some u := by simpa using hu1
        have hv3 : vs[i]? = some v := by simpa using hv1
        cases hu2; cases hv2
        have hl' : fs.length = as.length := by simpa using hl
        have ha' : VRL x as (us.drop (i + 1)) := by simpa [List.drop_drop, Nat.add_comm] using ha.drop 1
        have hb' : VRL x ys (vs.drop (i + 1)) := by simpa [List.drop_drop, Nat.add_comm] using hb.drop 1
        have ih := eqFields_spec w fs (i + 1) as ys h4 hl' ha' hb' q hr
        simp only [Op.eqFields, ne_eq, h1, not_false_eq_true, if_true, run_bind, h2]
        rw [run_part_one hk (by simpa using hu3)]
        simp only []
        rw [run_part_one hk (by simpa using hv3)]
        simp only []
        rw [show (Op.equalIn 9999 f.type (.int k1 n) (.int k1 n')).run P w = .ok (n == n') w from run_equalIn_ints w 9998 n n' hk]
        by_cases hn : n = n'
        · subst hn; simpa using ih
        · have : (n == n') = false := by simpa using hn
          simp only [this, Bool.not_false, if_true, run_pure, Bool.false_and]
    · cases h
theorem VRL.drop0 {x : Cx} {a : List AV} {v : List Value} (h : VRL x a v) : VRL x a (v.drop 0) := by simpa using h
theorem equal_agg {P : Program} {x : Cx} {t : TypeId} {as bs : List AV} {us vs : List Value} (hu : VRL x as us) (hv : VRL x bs vs) (ho : okEq P t as.length = true) {r : Bool} (h : eqAs as bs = some r) (w : World) :
    (Op.equal t (.agg us.toArray) (.agg vs.toArray)).run P w = .ok r w ∧ P.eqGuardType P.depth t = false := by
  unfold okEq at ho
  split at ho
  · rename_i fs hf
    simp only [Bool.and_eq_true, Bool.not_eq_true'] at ho
    obtain ⟨⟨⟨h1, h2⟩, h3⟩, h4⟩ := ho
    have hff : P.fieldsOf t = fs := by unfold Program.fieldsOf; rw [hf]
    refine ⟨?_, h4⟩
    rw [equal_step P, run_equalIn_struct _ _ _ _ _ (by rw [hff]; exact hf) h3, hff]
    exact eqFields_spec w fs.toList 0 as bs h2 (by simpa using Nat.eq_of_beq_eq_true h1) hu.drop0 hv.drop0 r h
  · cases ho
theorem eq_spec {P : Program} {x : Cx} {t : TypeId} {a b : AV} {u v : Value} (hu : VR x a u) (hv : VR x b v) {r : Bool} (h : eqA P t a b = some r) :
    (Op.equal t u v).run P x.w = .ok r x.w ∧ (∀ op p q, (eqGuard op t p q u v).run P x.w = .ok () x.w) ∧ binOp .eql t u v = (do pure (.bool (← Op.equal t u v))) ∧ binOp .neq t u v = (do pure (.bool (!(← Op.equal t u v)))) := by
  unfold eqA at h
  split at h
  · rename_i a1 b1 z hT
    obtain ⟨d, i, zv, hd, hi, hz, e1⟩ := ti_spec hT
    obtain rfl := tdOf_bool (congrArg TI.d e1).symm
    split at h
    · obtain rfl := Option.some.inj h
      cases hu
      cases hv
      exact ⟨by rw [equal_step P, Op.equalIn]; simp only [run_bind, run_underlying hd, run_pure], fun _ _ _ => guard_ok (by simp) (by simp) _, rfl, rfl⟩
    · cases h
  · rename_i e a1 b1 z hT
    obtain ⟨d, i, zv, hd, hi, hz, e1⟩ := ti_spec hT
    obtain rfl := tdOf_sl (congrArg TI.d e1).symm
    split at h
    · obtain rfl := Option.some.inj h
      cases hu
      cases hv
      exact ⟨by rw [equal_step P, Op.equalIn]; simp only [run_bind, run_underlying hd, run_pure, Option.isNone], fun _ _ _ => guard_ok (by simp) (by simp) _, rfl, rfl⟩
    · obtain rfl := Option.some.inj h
      cases hu
      cases hv
      exact ⟨by rw [equal_step P, Op.equalIn]; simp only [run_bind, run_underlying hd, run_pure, Option.isNone], fun _ _ _ => guard_ok (by simp) (by simp) _, rfl, rfl⟩
    · split at h
      · cases h
      · rename_i hn
        obtain rfl := Option.some.inj h
        cases hv
        cases hu with
        | fz n cs _ hf =>
          cases hf with
          | sl0 => exact absurd rfl hn
          | sl _ cap b off _ vs h0 h1 h2 h3 h4 =>
            exact ⟨by rw [equal_step P, Op.equalIn]; simp only [run_bind, run_underlying hd, run_pure, Option.isNone], fun _ _ _ => guard_ok (by simp) (by simp) _, rfl, rfl⟩
    · cases h
  · split at h
    · split at h
      · rename_i ho
        cases hu with
        | agg _ us hus =>
          cases hv with
          | agg _ vs hvs =>
            obtain ⟨q1, q2⟩ := equal_agg hus hvs ho h x.w
            exact ⟨q1, fun op p q => run_eqGuard_agg x.w op t p q _ _ q2, rfl, rfl⟩
      · cases h
    · cases h
  · cases h
theorem op_cmp {P : Program} {x : Cx} (hR : Rel x) {op : BinOp} {t : TypeId} {p q : Operand} {a b c : AV} {u v : Value} (hu : VR x a u) (hv : VR x b v) (h : cmpA P op t a b = some c) :
    DoneV P x (do eqGuard op t p q u v; binOp op t u v) c x.H := by
  unfold cmpA at h
  split at h
  · cases hr : eqA P t a b with
    | none => rw [hr] at h; cases h
    | some r =>
      rw [hr] at h
      obtain rfl := Option.some.inj h
      obtain ⟨h1, h2, h4, _⟩ := eq_spec hu hv hr
      refine DoneV.same hR (u := .bool r) ?_ (.bool _)
      simp only [run_bind, h2, h4, h1, run_pure]
  · cases hr : eqA P t a b with
    | none => rw [hr] at h; cases h
    | some r =>
      rw [hr] at h
      obtain rfl := Option.some.inj h
      obtain ⟨h1, h2, _, h4⟩ := eq_spec hu hv hr
      refine DoneV.same hR (u := .bool (!r)) ?_ (.bool _)
      simp only [run_bind, h2, h4, h1, run_pure]
  · cases h
theorem op_un {P : Program} {x : Cx} (hR : Rel x) {op : UnOp} {a c : AV} {u : Value} (hu : VR x a u) (h : unA op a = some c) : DoneV P x (Op.unary op u) c x.H := by
  unfold unA at h
  split at h
  · obtain rfl := Option.some.inj h
    cases hu
    exact DoneV.same hR (u := .int _ _) rfl (.int _ _)
  · obtain rfl := Option.some.inj h
    cases hu
    exact DoneV.same hR (u := .bool _) rfl (.bool _)
  · cases h
theorem idx_spec {x : Cx} {n m : Nat} {a : AV} {u : Value} (hu : VR x a u) (h : idxOf n a = some m) : ∃ k i, u = .int k i ∧ 0 ≤ i ∧ i < (n : Int) ∧ m = i.toNat := by
  unfold idxOf at h
  split at h
  · split at h
    · rename_i hc
      obtain rfl := Option.some.inj h
      cases hu
      exact ⟨_, _, rfl, hc.1, hc.2, rfl⟩
    · cases h
  · cases h
theorem op_indexAddr {P : Program} {x : Cx} (hR : Rel x) {t : TypeId} {p q : Operand} {ρ : Operand → AV} {σ : Operand → Value} (hp : VR x (ρ p) (σ p)) (hq : VR x (ρ q) (σ q)) (s : Nat) {v : AV} {H' : Heap} (h : opE P s ρ x.H (.indexAddr t p q) = some (v, H')) :
    DoneV P x (Instr.indexAt t (σ p) (σ q)) v H' := by
  generalize σ p = u at *
  generalize σ q = i at *
  simp only [opE] at h
  split at h
  · rename_i e a1 b1 z s' j g off n hT hav
    rw [hav] at hp
    obtain ⟨d, it, zv, hd, hi, hz, e1⟩ := ti_spec hT
    obtain rfl := tdOf_sl (congrArg TI.d e1).symm
    split at h
    · rename_i T m hTe hidx
      obtain ⟨de, ie, ze, hde, hie, hze, rfl⟩ := ti_spec hTe
      obtain ⟨k, n', rfl, h0, h1, rfl⟩ := idx_spec hq hidx
      simp only [Option.some.injEq, Prod.mk.injEq] at h
      obtain ⟨rfl, rfl⟩ := h
      cases hp with
      | sl _ _ _ _ _ cap av o g1 g2 g3 g4 =>
        refine DoneV.same hR (u := .pointer (some (av.add (n'.toNat * ie.size)))) ?_ (.ptr s' j g _ _ o g1 g2 (fun hg => ?_))
        · simp only [Instr.indexAt, run_bind, asIntOf, run_pure, run_underlying hd, h0, h1, and_self, if_true, run_sizeOf hie]
        · obtain ⟨p, _, _, rfl, hb, _, h5 | rfl⟩ := g4 hg
          · omega
          · refine ⟨hR.noMap g1 hb, ?_⟩
            rw [add_off, Nat.add_assoc]
    · cases h
  · rename_i e a1 b1 z n cs hT hav
    rw [hav] at hp
    obtain ⟨d, it, zv, hd, hi, hz, e1⟩ := ti_spec hT
    obtain rfl := tdOf_sl (congrArg TI.d e1).symm
    split at h
    · rename_i T m hTe hidx
      obtain ⟨de, ie, ze, hde, hie, hze, rfl⟩ := ti_spec hTe
      obtain ⟨k, n', rfl, h0, h1, rfl⟩ := idx_spec hq hidx
      simp only [Option.some.injEq, Prod.mk.injEq] at h
      obtain ⟨rfl, rfl⟩ := h
      cases hp with
      | fz _ _ _ hf =>
        cases hf with
        | sl0 => omega
        | sl _ cap b off _ vs k0 k1 k2 k3 k4 =>
          refine DoneV.same hR (u := .pointer (some ⟨b, off + n'.toNat * ie.size, none⟩)) ?_ (.fptr b _ _ (vs.drop (n'.toNat * ie.size)) (fun i v hv => ?_) (FRL.drop _ k3) (fun _ => k4))
          · simp only [Instr.indexAt, run_bind, asIntOf, run_pure, run_underlying hd, h0, h1, and_self, if_true, run_sizeOf hie, add_off]
          · rw [List.getElem?_drop] at hv
            rw [Nat.add_assoc]
            exact k2 _ v hv
    · cases h
  · rename_i n e a1 b1 z s' j g off hT hav
    rw [hav] at hp
    obtain ⟨d, it, zv, hd, hi, hz, e1⟩ := ti_spec hT
    obtain rfl := tdOf_arr (congrArg TI.d e1).symm
    split at h
    · rename_i T m hTe hidx
      obtain ⟨de, ie, ze, hde, hie, hze, rfl⟩ := ti_spec hTe
      obtain ⟨k, n', rfl, h0, h1, rfl⟩ := idx_spec hq hidx
      simp only [Option.some.injEq, Prod.mk.injEq] at h
      obtain ⟨rfl, rfl⟩ := h
      cases hp with
      | ptr _ _ _ _ av o g1 g2 g3 =>
        refine DoneV.same hR (u := .pointer (some (av.add (n'.toNat * ie.size)))) ?_ (.ptr s' j g _ _ o g1 g2 (fun hg => ?_))
        · simp only [Instr.indexAt, Instr.sureAddr, run_bind, asIntOf, run_pure, run_underlying hd, h0, h1, and_self, if_true, run_sizeOf hie]
        · exact ⟨(g3 hg).1, by rw [(g3 hg).2, add_off, Nat.add_assoc]⟩
    · cases h
  · cases h
end Go.Proofs.YtffiddkignmobaaDoorVe
end
section
/- VE, part K: slicing and the rest; all operations but calls. -/
namespace Go.Proofs.YtffiddkignmobaaDoorVe
def OptVR (x : Cx) : Option AV → Option Value → Prop
  | none, none => True
  | some a, some v => VR x a v
  | _, _ => False
theorem opt_ev {x : Cx} {ρ : Operand → AV} {σ : Operand → Value} (o : Option Operand) (h : ∀ q, o = some q → VR x (ρ q) (σ q)) : OptVR x (o.map ρ) (o.map σ) := by
  cases o with
  | none => trivial
  | some q => exact h q rfl
theorem low_spec {x : Cx} {a : Option AV} {v : Option Value} (h : OptVR x a v) {l : Int} (hl : lowA a = some l) : (v = none ∧ l = 0) ∨ ∃ k, v = some (.int k l) := by
  unfold lowA at hl
  split at hl
  · obtain rfl := Option.some.inj hl
    cases v with
    | none => exact .inl ⟨rfl, rfl⟩
    | some v => exact h.elim
  · obtain rfl := Option.some.inj hl
    cases v with
    | none => exact h.elim
    | some v =>
      simp only [OptVR] at h
      cases h
      exact .inr ⟨_, rfl⟩
  · cases hl
theorem high_spec {x : Cx} {n : Nat} {a : Option AV} {v : Option Value} (h : OptVR x a v) {l : Int} (hl : highA n a = some l) : (v = none ∧ l = n) ∨ ∃ k, v = some (.int k l) := by
  unfold highA at hl
  split at hl
  · obtain rfl := Option.some.inj hl
    cases v with
    | none => exact .inl ⟨rfl, rfl⟩
    | some v => exact h.elim
  · obtain rfl := Option.some.inj hl
    cases v with
    | none => exact h.elim
    | some v =>
      simp only [OptVR] at h
      cases h
      exact .inr ⟨_, rfl⟩
  · cases hl
theorem run_bounds {P : Program} {x : Cx} {lo hi : Option AV} {vl vh : Option Value} (hl : OptVR x lo vl) (hh : OptVR x hi vh) {l h : Int} {n cap : Nat} (e1 : lowA lo = some l) (e2 : highA n hi = some h) (hok : okInts l h n = true) (hc : n ≤ cap) (b : Bool) (w : World) :
    (Instr.sliceBounds b n cap vl vh none).run P w = .ok (l.toNat, h.toNat, cap) w := by
  simp only [okInts, decide_eq_true_eq] at hok
  have hb : ∀ (k : IntKind) (y : Nat) (c : BoundsCode) (i : Int), 0 ≤ i → i ≤ y → (Instr.sliceBound (.int k i) y c).run P w = .ok i.toNat w := by
    intro k y c i h0 h1
    simp only [Instr.sliceBound, run_bind, asIntOf, run_pure, h0, h1, and_self, if_true]
  rcases high_spec hh e2 with ⟨rfl, rfl⟩ | ⟨kh, rfl⟩
  · rcases low_spec hl e1 with ⟨rfl, rfl⟩ | ⟨kl, rfl⟩
    · simp [Instr.sliceBounds, run_bind, run_pure]
    · have := hb kl n .sliceB l (by omega) (by omega)
      simp [Instr.sliceBounds, run_bind, run_pure, this]
  · have h1 := hb kh cap (if b then .sliceAcap else .sliceAlen) h (by omega) (by omega)
    rcases low_spec hl e1 with ⟨rfl, rfl⟩ | ⟨kl, rfl⟩
    · simp [Instr.sliceBounds, run_bind, run_pure, h1]
    · have h2 := hb kl h.toNat .sliceB l (by omega) (by omega)
      simp [Instr.sliceBounds, run_bind, run_pure, h1, h2]
theorem op_slice {P : Program} {x : Cx} (hR : Rel x) {t : TypeId} {p : Operand} {lo hi mx : Option Operand} {ρ : Operand → AV} {σ : Operand → Value} (hp : VR x (ρ p) (σ p)) (hlo : ∀ q, lo = some q → VR x (ρ q) (σ q)) (hhi : ∀ q, hi = some q → VR x (ρ q) (σ q)) (s : Nat) {v : AV} {H' : Heap} (h : opE P s ρ x.H (.slice t p lo hi mx) = some (v, H')) :
    DoneV P x (Instr.sliceAt t (σ p) (lo.map σ) (hi.map σ) (mx.map σ)) v H' := by
  have hl := opt_ev lo hlo
  have hh := opt_ev hi hhi
  generalize σ p = u at *
  generalize lo.map σ = vl at *
  generalize hi.map σ = vh at *
  simp only [opE] at h
  split at h
  · rename_i a1 b1 z b hT hav
    rw [hav] at hp
    obtain ⟨d, it, zv, hd, hi', hz, e1⟩ := ti_spec hT
    obtain rfl := tdOf_str (congrArg TI.d e1).symm
    split at h
    · rename_i l hh' el eh
      split at h
      · rename_i hok
        simp only [Option.some.injEq, Prod.mk.injEq] at h
        obtain ⟨rfl, rfl⟩ := h
        cases hp
        refine DoneV.same hR (u := .string (b.extract l.toNat hh'.toNat)) ?_ (.str _)
        simp only [Instr.sliceAt, Instr.slice, run_bind, run_underlying hd, Option.map_none, Option.isSome_none, Bool.false_eq_true, if_false, run_pure, run_bounds hl hh el eh hok (Nat.le_refl _)]
      · cases h
    · cases h
  · rename_i e a1 b1 z s' j g off n hT hav
    rw [hav] at hp
    obtain ⟨d, it, zv, hd, hi', hz, e1⟩ := ti_spec hT
    obtain rfl := tdOf_sl (congrArg TI.d e1).symm
    split at h
    · rename_i T l hh' o2 hTe el eh ho2
      obtain ⟨de, ie, ze, hde, hie, hze, rfl⟩ := ti_spec hTe
      split at h
      · rename_i hok
        obtain ⟨hok, hoz⟩ := hok
        replace hoz : o2.z = ie.size := hoz
        simp only [Option.some.injEq, Prod.mk.injEq] at h
        obtain ⟨rfl, rfl⟩ := h
        cases hp with
        | sl _ _ _ _ _ cap av o g1 g2 g3 g4 =>
          rw [ho2] at g1
          obtain rfl := Option.some.inj g1
          have hok' := hok
          simp only [okInts, decide_eq_true_eq] at hok'
          refine DoneV.same hR (u := .slice (some (if cap = l.toNat then av else av.add (l.toNat * ie.size))) (hh'.toNat - l.toNat) (cap - l.toNat)) ?_ ?_
          · simp only [Instr.sliceAt, Instr.slice, run_bind, run_underlying hd, Option.map_none, run_pure, run_bounds hl hh el eh hok g3, run_sizeOf hie]
            split <;> simp
          · rw [show (hh' - l).toNat = hh'.toNat - l.toNat by omega]
            refine .sl s' j g _ _ _ _ o2 ho2 g2 (by omega) (fun hg => ?_)
            obtain ⟨p, c, e', rfl, h6, h7, h5⟩ := g4 hg
            by_cases hcl : cap = l.toNat
            · rw [if_pos hcl]
              have hp : p ≤ c.size := by
                have := Nat.zero_le (cap * o2.z)
                omega
              refine ⟨p, c, e', rfl, h6, by rw [hcl]; simpa using hp, .inl (by omega)⟩
            · rcases h5 with h5 | rfl
              · omega
              · rw [if_neg hcl, add_off]
                refine ⟨_, c, e', rfl, h6, ?_, .inr (by rw [Nat.add_assoc])⟩
                rw [hoz] at h7 ⊢
                have h8 : (cap - l.toNat) * ie.size = cap * ie.size - l.toNat * ie.size := Nat.sub_mul _ _ _
                have h9 : l.toNat * ie.size ≤ cap * ie.size := Nat.mul_le_mul_right _ (by omega)
                omega
      · cases h
    · cases h
  · rename_i e a1 b1 z n cs hT hav
    rw [hav] at hp
    obtain ⟨d, it, zv, hd, hi', hz, e1⟩ := ti_spec hT
    obtain rfl := tdOf_sl (congrArg TI.d e1).symm
    split at h
    · rename_i T l hh' hTe el eh
      obtain ⟨de, ie, ze, hde, hie, hze, rfl⟩ := ti_spec hTe
      split at h
      · rename_i hok
        have hok' := hok
        simp only [okInts, decide_eq_true_eq] at hok'
        simp only [Option.some.injEq, Prod.mk.injEq] at h
        obtain ⟨rfl, rfl⟩ := h
        cases hp with
        | fz _ _ _ hf =>
          have hrun : ∀ (A : Option Addr) (cap : Nat), n ≤ cap → (Instr.sliceAt t (.slice A n cap) vl vh ((none : Option Operand).map σ)).run P x.w = .ok (.slice (if cap = l.toNat then A else A.map (·.add (l.toNat * ie.size))) (hh'.toNat - l.toNat) (cap - l.toNat)) x.w := by
            intro A cap hc
            simp only [Instr.sliceAt, Instr.slice, run_bind, run_underlying hd, Option.map_none, run_pure, run_bounds hl hh el eh hok hc, run_sizeOf hie]
          cases hf with
          | sl0 A cap =>
            refine DoneV.same hR (hrun A cap (Nat.zero_le _)) ?_
            have e0 : (hh' - l).toNat = 0 := by omega
            have e3 : hh'.toNat - l.toNat = 0 := by omega
            rw [e0, e3]
            simp only [Nat.zero_mul, List.take_zero]
            exact .fz _ _ _ (.sl0 _ _)
          | sl _ cap b off _ vs k0 k1 k2 k3 k4 =>
            refine DoneV.same hR (hrun _ cap k1) ?_
            rw [show (hh' - l).toNat = hh'.toNat - l.toNat by omega]
            by_cases hz0 : hh'.toNat - l.toNat = 0
            · rw [hz0]
              simp only [Nat.zero_mul, List.take_zero]
              exact .fz _ _ _ (.sl0 _ _)
            · have hcl : ¬ cap = l.toNat := by omega
              rw [if_neg hcl]
              simp only [Option.map_some, add_off]
              refine .fz _ _ _ (.sl _ _ b _ _ ((vs.drop (l.toNat * ie.size)).take ((hh'.toNat - l.toNat) * ie.size)) hz0 (by omega) (fun i v hv => ?_) (FRL.take _ (FRL.drop _ k3)) k4)
              rw [List.getElem?_take] at hv
              split at hv
              · rw [List.getElem?_drop] at hv
                rw [Nat.add_assoc]
                exact k2 _ v hv
              · cases hv
      · cases h
    · cases h
  · rename_i e a1 b1 z hT hav
    rw [hav] at hp
    obtain ⟨d, it, zv, hd, hi', hz, e1⟩ := ti_spec hT
    obtain rfl := tdOf_sl (congrArg TI.d e1).symm
    split at h
    · rename_i T l hh' hTe el eh
      obtain ⟨de, ie, ze, hde, hie, hze, rfl⟩ := ti_spec hTe
      split at h
      · rename_i hok
        have hok' := hok
        simp only [okInts, decide_eq_true_eq] at hok'
        simp only [Option.some.injEq, Prod.mk.injEq] at h
        obtain ⟨rfl, rfl⟩ := h
        obtain rfl : l = 0 := by omega
        obtain rfl : hh' = 0 := by omega
        cases hp
        refine DoneV.same hR (u := .slice none 0 0) ?_ .nil
        simp only [Instr.sliceAt, Instr.slice, run_bind, run_underlying hd, Option.map_none, run_pure, run_bounds hl hh el eh hok (Nat.le_refl _), run_sizeOf hie]
        simp
      · cases h
    · cases h
  · cases h
theorem op_fieldAddr {P : Program} {x : Cx} (hR : Rel x) {t : TypeId} {p : Operand} {f : Nat} {ρ : Operand → AV} {σ : Operand → Value} (hp : VR x (ρ p) (σ p)) (s : Nat) {v : AV} {H' : Heap} (h : opE P s ρ x.H (.fieldAddr t p f) = some (v, H')) :
    DoneV P x (Instr.fieldAt t (σ p) f) v H' := by
  generalize σ p = u at *
  simp only [opE] at h
  split at h
  · rename_i fs a1 b1 z s' j g off hT hav
    rw [hav] at hp
    obtain ⟨d, it, zv, hd, hi', hz, e1, hokd, _⟩ := ti_spec' hT
    obtain ⟨fl, rfl, e2⟩ := tdOf_st (congrArg TI.d e1).symm
    replace e2 : fs = fl.toList.map fun f => (f.offset, sz P f.type) := e2
    split at h
    · rename_i o n hf
      split at h
      · cases h
      · rename_i hn
        simp only [Option.some.injEq, Prod.mk.injEq] at h
        obtain ⟨rfl, rfl⟩ := h
        rw [e2, List.getElem?_map] at hf
        cases hfl : fl.toList[f]? with
        | none => rw [hfl] at hf; cases hf
        | some fd =>
          rw [hfl] at hf
          simp only [Option.map_some, Option.some.injEq, Prod.mk.injEq] at hf
          obtain ⟨rfl, rfl⟩ := hf
          have hmem : (P.info? fd.type).isSome = true := by
            have h1 : fl.toList.all (fun f => (P.info? f.type).isSome) = true := hokd
            exact List.all_eq_true.1 h1 fd (List.mem_of_getElem? hfl)
          obtain ⟨ifd, hifd⟩ := Option.isSome_iff_exists.1 hmem
          have hsz : ifd.size ≠ 0 := by simpa [sz, hifd] using hn
          cases hp with
          | ptr _ _ _ _ av o1 g1 g2 g3 =>
            refine DoneV.same hR (u := .pointer (some (av.add fd.offset))) ?_ (.ptr s' j g _ _ o1 g1 g2 (fun hg => ?_))
            · have hfa : fl[f]? = some fd := by simpa using hfl
              simp only [Instr.fieldAt, Instr.sureAddr, run_bind, run_underlying hd, hfa, run_pure, fieldPlace, run_sizeOf hifd, hsz, if_false]
            · exact ⟨(g3 hg).1, by rw [(g3 hg).2, add_off, Nat.add_assoc]⟩
    · cases h
  · cases h
theorem op_index {P : Program} {x : Cx} (hR : Rel x) {t : TypeId} {p q : Operand} {ρ : Operand → AV} {σ : Operand → Value} (hp : VR x (ρ p) (σ p)) (hq : VR x (ρ q) (σ q)) (s : Nat) {v : AV} {H' : Heap} (h : opE P s ρ x.H (.index t p q) = some (v, H')) :
    DoneV P x (Instr.index t (σ p) (σ q)) v H' := by
  generalize σ p = u at *
  generalize σ q = i at *
  simp only [opE] at h
  split at h
  · rename_i a1 b1 z b hT hav
    rw [hav] at hp
    obtain ⟨d, it, zv, hd, hi', hz, e1⟩ := ti_spec hT
    obtain rfl := tdOf_str (congrArg TI.d e1).symm
    split at h
    · rename_i m hidx
      obtain ⟨k, n', rfl, h0, h1, rfl⟩ := idx_spec hq hidx
      cases hc : b.data[n'.toNat]? with
      | none => rw [hc] at h; cases h
      | some c =>
        rw [hc] at h
        simp only [Option.map_some, Option.some.injEq, Prod.mk.injEq] at h
        obtain ⟨rfl, rfl⟩ := h
        cases hp
        refine DoneV.same hR (u := .int .u8 c.toNat) ?_ (.int _ _)
        have hb : b[n'.toNat]? = some c := by
          have hlt : n'.toNat < b.size := by omega
          have hlt2 : n'.toNat < b.data.size := hlt
          rw [Array.getElem?_eq_getElem hlt2] at hc
          rw [getElem?_pos b n'.toNat hlt]
          exact hc
        simp only [Instr.index, run_bind, asIntOf, run_pure, run_underlying hd, h0, if_true, hb]
    · cases h
  · cases h
end Go.Proofs.YtffiddkignmobaaDoorVe
end
section
/- VE, part Ka: maps whose keys are whole numbers. -/
namespace Go.Proofs.YtffiddkignmobaaDoorVe
open Go.MapKept (IsKey)
theorem putM_spec {P : Program} {H : Heap} {t : TypeId} {m k a : AV} {r : AV × Heap} (h : putM P H t m k a = some r) : ∃ s j o kd n, m = .mp s j o.g ∧ k = .int kd n ∧ H.ob s j = some o ∧ o.z = MZ ∧ a.isCell = true ∧ r = (.undef, H.put s j ⟨o.g, MZ, setE kd n a o.cells⟩) := by
  unfold putM at h
  split at h
  · split at h
    · rename_i q a2 b2 z2 o hK ho
      split at h
      · split at h
        · rename_i hc
          obtain ⟨rfl, hg, hz, hac⟩ := hc
          subst hg
          exact ⟨_, _, o, _, _, rfl, rfl, ho, hz, hac, (Option.some.inj h).symm⟩
        · cases h
      · cases h
    · cases h
  · cases h
theorem getM_spec {P : Program} {H : Heap} {t : TypeId} {m k : AV} {ok : Bool} {r : AV × Heap} (h : getM P H t m k ok = some r) : r.2 = H ∧ ∃ s j o kd n z w, m = .mp s j o.g ∧ k = .int kd n ∧ H.ob s j = some o ∧ findE kd n o.cells = some w ∧ r.1 = lookE ok z w := by
  unfold getM at h
  split at h
  · split at h
    · rename_i q a2 b2 z2 de a3 b3 z o hK hE2 ho
      split at h
      · rename_i w hf
        split at h
        · rename_i hc
          obtain ⟨rfl, hg, hz, hac⟩ := hc
          subst hg
          obtain rfl := Option.some.inj h
          exact ⟨rfl, _, _, o, _, _, z, w, rfl, rfl, ho, hf, rfl⟩
        · cases h
      · cases h
    · cases h
  · cases h
theorem getM_mono {P : Program} {H H2 : Heap} {t : TypeId} {m k : AV} {ok : Bool} {r : AV × Heap} (h : getM P H t m k ok = some r) (hH : ∀ s j o, H.ob s j = some o → H2.ob s j = some o) : getM P H2 t m k ok = some (r.1, H2) := by
  unfold getM at h ⊢
  split at h
  · rename_i hT
    split at h
    · rename_i q a2 b2 z2 de a3 b3 z o hK hE2 ho
      simp only [hK, hE2, hH _ _ _ ho]
      split at h
      · rename_i w hf
        split at h
        · rename_i hc
          obtain rfl := Option.some.inj h
          simp only
          rw [if_pos hc]
        · cases h
      · cases h
    · cases h
  · cases h
theorem find_spec {x : Cx} {k : IntKind} {n : Int} : ∀ {cs : List AV} {es : List MapEntry}, ER x cs es → ∀ {r : Option AV}, findE k n cs = some r → ∀ i : Nat,
    (r = none ∧ Instr.findNow (.int k) (.int k n) es i = some none ∧ ∀ a u cl, VR x a u → a.isCell = true → ER x (setE k n a cs) (es ++ [⟨.int k n, u, cl⟩])) ∨
    (∃ v j e, r = some v ∧ Instr.findNow (.int k) (.int k n) es i = some (some (i + j, e.val)) ∧ es[j]? = some e ∧ e.key = .int k n ∧ VR x v e.val ∧ v.isCell = true ∧ ∀ a u, VR x a u → a.isCell = true → ER x (setE k n a cs) (es.modify j fun e => { e with key := .int k n, val := u }))
  | _, _, .nil, r, h, i => by
    simp only [findE, Option.some.injEq] at h
    subst h
    exact .inl ⟨rfl, rfl, fun a u cl ha hc => .cons k n a [] _ [] rfl hc ha .nil⟩
  | _, _, .cons k' m a cs e es hk hc hv hes, r, h, i => by
    simp only [findE] at h
    split at h
    · rename_i hkk
      subst hkk
      split at h
      · rename_i hnm
        subst hnm
        obtain ⟨rfl⟩ := h
        refine .inr ⟨a, 0, e, rfl, by simp [Instr.findNow, Instr.sameNow, hk], rfl, hk, hv, hc, fun b u hb hcb => ?_⟩
        simp only [setE, if_true]
        exact .cons k n b cs _ es rfl hcb hb hes
      · rename_i hnm
        have hf : ∀ i, Instr.findNow (.int k) (.int k n) (e :: es) i = Instr.findNow (.int k) (.int k n) es (i + 1) := fun i => by
          have hb : (n == m) = false := by simp [hnm]
          simp only [Instr.findNow, Instr.sameNow, hk, if_true, hb]
        rcases find_spec hes h (i + 1) with ⟨h1, h2, h3⟩ | ⟨v, j, e', h1, h2, h3, h4, h5, h6, h7⟩
        · refine .inl ⟨h1, by rw [hf]; exact h2, fun b u cl hb hcb => ?_⟩
          simp only [setE, hnm, if_false, List.cons_append]
          exact .cons k m a _ e _ hk hc hv (h3 b u cl hb hcb)
        · refine .inr ⟨v, j + 1, e', h1, by rw [hf, h2]; congr 3; omega, by simpa using h3, h4, h5, h6, fun b u hb hcb => ?_⟩
          simp only [setE, hnm, if_false, List.modify_succ_cons]
          exact .cons k m a _ e _ hk hc hv (h7 b u hb hcb)
    · cases h
/-- A new map. -/
theorem op_makeMap {P : Program} {x : Cx} (hR : Rel x) {s : Nat} (hs : x.H s = []) (t : TypeId) : DoneV P x (Instr.makeMap t none) (.mp s 0 0) (x.H.upd s [⟨0, MZ, []⟩]) := by
  have hcg : Chg x { x.w with heap := x.w.heap.push (.map #[] 0) } (x.H.upd s [⟨0, MZ, []⟩]) s 0 (x.w.heap.size, 0) ⟨0, MZ, []⟩ := by
    refine ⟨fun t i => ?_, .inl ⟨rfl, #[], 0, by simp, .nil⟩, .inl (Nat.le_refl _), fun k hk _ => ?_, fun o2 h2 => by simp [Heap.ob, hs] at h2, rfl, rfl, rfl, by simp⟩
    · by_cases hts : t = s
      · subst hts
        rw [Heap.ob_upd_same]
        cases i with
        | zero => simp
        | succ i => simp [Heap.ob, hs]
      · rw [Heap.ob_upd_ne _ _ _ hts]; simp [hts]
    · simp only
      rw [Array.getElem?_push]
      simp [Nat.ne_of_lt hk]
  refine DoneV.chg hR hcg (u := .map (some x.w.heap.size)) ?_ (.mp s 0 0 _ _ (ob_new _ _ _) (Nat.le_refl _) (fun _ => ⟨rfl, by simp [Bt.upd_same]⟩))
  simp [Instr.makeMap, newObj, run_bind, Sem.run, run_pure]
theorem map_block {x : Cx} (hR : Rel x) {s j g : Nat} {u : Value} (hu : VR x (.mp s j g) u) {o : Ob} (ho : x.H.ob s j = some o) (hg : o.g = g) : ∃ es clock, u = .map (some (x.β s j).1) ∧ x.w.heap[(x.β s j).1]? = some (.map es clock) ∧ ER x o.cells es.toList := by
  cases hu with
  | mp _ _ _ b o1 h1 h2 h3 =>
    rw [ho] at h1
    obtain rfl := Option.some.inj h1
    obtain ⟨hz, rfl⟩ := h3 hg
    rcases hR.obj s j o ho with ⟨_, es, cl, h4, h5⟩ | ⟨h, _⟩
    · exact ⟨es, cl, rfl, h4, h5⟩
    · exact absurd hz h
theorem tdOf_map {P : Program} {d : TypeDesc} {k e : Nat} (h : tdOf P d = .map k e) : d = .map k e := by
  cases d <;> simp [tdOf] at h
  obtain ⟨rfl, rfl⟩ := h; rfl
theorem ofVal_one : ∀ z : Value, oneC z = true → (ofVal z).cells = [ofVal z]
  | .int k n, _ => by simp [ofVal, AV.cells]
  | .bool b, _ => by simp [ofVal, AV.cells]
  | .string s, _ => by simp [ofVal, AV.cells]
  | .slice none 0 0, _ => by simp [ofVal, AV.cells]
  | .slice none 0 (c + 1), _ => by simp [ofVal, AV.cells]
  | .slice none (n + 1) c, _ => by simp [ofVal, AV.cells]
  | .slice (some a) n c, _ => by simp [ofVal, AV.cells]
  | .pointer none, _ => by simp [ofVal, AV.cells]
  | .pointer (some a), _ => by simp [ofVal, AV.cells]
  | .nilFunc, _ => by simp [ofVal, AV.cells]
  | .agg _, h => by simp [oneC] at h
  | .float .., _ => by simp [ofVal, AV.cells]
  | .complex .., _ => by simp [ofVal, AV.cells]
  | .map .., _ => by simp [ofVal, AV.cells]
  | .chan .., _ => by simp [ofVal, AV.cells]
  | .func .., _ => by simp [ofVal, AV.cells]
  | .iface .., _ => by simp [ofVal, AV.cells]
  | .nilIface, _ => by simp [ofVal, AV.cells]
  | .tuple .., h => by simp [oneC] at h
/-- A value is put behind a key. -/
theorem op_putM {P : Program} {x : Cx} (hR : Rel x) {t : TypeId} {m k a : AV} {mv kv av : Value} (hm : VR x m mv) (hk : VR x k kv) (ha : VR x a av) {v : AV} {H' : Heap} (h : putM P x.H t m k a = some (v, H')) :
    ∃ w' y, (Instr.mapUpdate t mv kv av).run P x.w = .ok () w' ∧ w' = y.w ∧ y.H = H' ∧ v = .undef ∧ Rel y ∧ Ext x y := by
  unfold putM at h
  split at h
  · rename_i kt e a1 b1 z1 s' j g kd n hT
    split at h
    · rename_i q a2 b2 z2 o hK ho
      split at h
      · rename_i r hf
        split at h
        · rename_i hc
          obtain ⟨rfl, hg, hz, hac⟩ := hc
          simp only [Option.some.injEq, Prod.mk.injEq] at h
          obtain ⟨rfl, rfl⟩ := h
          obtain ⟨d, i, z, hd, _, _, e1⟩ := ti_spec hT
          obtain rfl := tdOf_map (congrArg TI.d e1).symm
          obtain ⟨d2, i2, z3, hd2, _, _, e2⟩ := ti_spec hK
          obtain rfl := tdOf_int (congrArg TI.d e2).symm
          obtain ⟨es, cl, rfl, hb, hE⟩ := map_block hR hm ho hg
          cases hk
          have hkey : IsKey (.int q) (.int q n) := rfl
          have hset : ∀ o' : Obj, (x.w.heap.setIfInBounds (x.β s' j).1 o')[(x.β s' j).1]? = some o' ∧ ∀ r', r' ≠ (x.β s' j).1 → (x.w.heap.setIfInBounds (x.β s' j).1 o')[r']? = x.w.heap[r']? := fun o' => MapKept.heap_set hb
          have fin : ∀ (es' : Array MapEntry) (cl' : Nat), ER x (setE q n a o.cells) es'.toList → (Instr.mapUpdate t (.map (some (x.β s' j).1)) (.int q n) av).run P x.w = .ok () { x.w with heap := x.w.heap.setIfInBounds (x.β s' j).1 (.map es' cl') } →
              ∃ w' y, (Instr.mapUpdate t (.map (some (x.β s' j).1)) (.int q n) av).run P x.w = .ok () w' ∧ w' = y.w ∧ y.H = x.H.put s' j ⟨g, MZ, setE q n a o.cells⟩ ∧ AV.undef = .undef ∧ Rel y ∧ Ext x y := fun es' cl' hE' hrun => by
            have hcg : Chg x { x.w with heap := x.w.heap.setIfInBounds (x.β s' j).1 (.map es' cl') } (x.H.put s' j ⟨g, MZ, setE q n a o.cells⟩) s' j (x.β s' j) ⟨g, MZ, setE q n a o.cells⟩ := by
              refine ⟨fun t i => Heap.ob_put ho _ t i, .inl ⟨rfl, es', cl', (hset _).1, hE'⟩, .inr ⟨o, ho, rfl⟩, fun k _ hk => (hset _).2 k hk, fun o2 h2 => ?_, rfl, rfl, rfl, by simp⟩
              rw [ho] at h2
              obtain rfl := Option.some.inj h2
              exact ⟨by simp only; omega, fun _ => ⟨hz.symm, rfl, fun c e' hc => by rw [hb] at hc; cases hc⟩⟩
            exact ⟨_, ⟨_, x.Z, x.β.upd s' j (x.β s' j), _⟩, hrun, rfl, rfl, rfl, hcg.rel hR, hcg.ext hR⟩
          rcases find_spec hE hf 0 with ⟨_, h2, h3⟩ | ⟨v', jj, e', _, h2, h3, h4, _, _, h7⟩
          · refine fin (es.push ⟨.int q n, av, cl⟩) (cl + 1) (by simpa using h3 a av cl ha hac) ?_
            simp [Instr.mapUpdate, run_bind, run_underlying hd, MapKept.run_getObj_map hb, MapKept.run_checkKey hd2 hkey, MapKept.run_findKey hd2 h2, MapKept.run_setObj_map _ hb]
          · have hj : es[jj]? = some e' := by simpa using h3
            refine fin (es.modify jj fun e => { e with key := .int q n, val := av }) cl (by simpa using h7 a av ha hac) ?_
            simp [Instr.mapUpdate, run_bind, run_underlying hd, MapKept.run_getObj_map hb, MapKept.run_checkKey hd2 hkey, MapKept.run_findKey hd2 h2, hj, h4, MapKept.run_keyThatStays hkey, MapKept.run_setObj_map _ hb]
        · cases h
      · cases h
    · cases h
  · cases h
theorem op_getM {P : Program} {x : Cx} (hR : Rel x) {t : TypeId} {m k : AV} {mv kv : Value} (hm : VR x m mv) (hk : VR x k kv) {ok : Bool} {v : AV} {H' : Heap} (h : getM P x.H t m k ok = some (v, H')) :
    DoneV P x (Instr.lookup t mv kv ok) v H' := by
  unfold getM at h
  split at h
  · rename_i kt e a1 b1 z1 s' j g kd n hT
    split at h
    · rename_i q a2 b2 z2 de a3 b3 z o hK hE2 ho
      split at h
      · rename_i r hf
        split at h
        · rename_i hc
          obtain ⟨rfl, hg, hz, hagg⟩ := hc
          simp only [Option.some.injEq, Prod.mk.injEq] at h
          obtain ⟨rfl, rfl⟩ := h
          obtain ⟨d, i, zz, hd, _, _, e1⟩ := ti_spec hT
          obtain rfl := tdOf_map (congrArg TI.d e1).symm
          obtain ⟨d2, i2, z3, hd2, _, _, e2⟩ := ti_spec hK
          obtain rfl := tdOf_int (congrArg TI.d e2).symm
          obtain ⟨d3, i3, z4, hd3, hi3, hz4, e3, _, _, h1c⟩ := ti_spec' hE2
          have e4 : de = tdOf P d3 := congrArg TI.d e3
          have e5 : [z] = (ofVal z4).cells := congrArg TI.zero e3
          have hone : oneC z4 = true := by
            rcases h1c with h | h
            · rw [← e4, hagg] at h; cases h
            · exact h
          have hzv : VR x z z4 := by
            have h6 := ofVal_vr x z4
            rw [ofVal_one z4 hone] at e5
            have : ofVal z4 = z := (List.cons.inj e5).1.symm
            rw [this] at h6; exact h6
          obtain ⟨es, cl, rfl, hb, hE⟩ := map_block hR hm ho hg
          cases hk
          have hkey : IsKey (.int q) (.int q n) := rfl
          rcases find_spec hE hf 0 with ⟨rfl, h2, h3⟩ | ⟨v', jj, e', rfl, h2, h3, h4, h5, _, _⟩
          · cases ok with
            | true =>
              refine DoneV.same hR (u := .tuple #[z4, .bool false]) ?_ (.tup _ [z4, .bool false] (.cons _ _ _ _ hzv (.cons _ _ _ _ (.bool false) .nil)))
              simp [Instr.lookup, run_bind, run_pure, run_underlying hd, MapKept.run_getObj_map hb, MapKept.run_checkKey hd2 hkey, MapKept.run_findKey hd2 h2, run_zeroValue hi3 hz4]
            | false =>
              refine DoneV.same hR (u := z4) ?_ hzv
              simp [Instr.lookup, run_bind, run_pure, run_underlying hd, MapKept.run_getObj_map hb, MapKept.run_checkKey hd2 hkey, MapKept.run_findKey hd2 h2, run_zeroValue hi3 hz4]
          · cases ok with
            | true =>
              refine DoneV.same hR (u := .tuple #[e'.val, .bool true]) ?_ (.tup _ [e'.val, .bool true] (.cons _ _ _ _ h5 (.cons _ _ _ _ (.bool true) .nil)))
              simp [Instr.lookup, run_bind, run_pure, run_underlying hd, MapKept.run_getObj_map hb, MapKept.run_checkKey hd2 hkey, MapKept.run_findKey hd2 h2]
            | false =>
              refine DoneV.same hR (u := e'.val) ?_ h5
              simp [Instr.lookup, run_bind, run_pure, run_underlying hd, MapKept.run_getObj_map hb, MapKept.run_checkKey hd2 hkey, MapKept.run_findKey hd2 h2]
        · cases h
      · cases h
    · cases h
  · cases h
theorem strA_heap {P : Program} {H : Heap} {e : TypeId} {v : AV} {r : AV × Heap} (h : strA P H e v = some r) : r.2 = H := by
  unfold strA at h
  repeat' split at h
  all_goals try (cases h; done)
  simp only [Option.map_eq_some_iff] at h
  obtain ⟨ns, _, rfl⟩ := h
  rfl
theorem strA_mono {P : Program} {H H2 : Heap} {e : TypeId} {v : AV} {r : AV × Heap} (h : strA P H e v = some r) (hH : ∀ s j o, H.ob s j = some o → H2.ob s j = some o) : strA P H2 e v = some (r.1, H2) := by
  unfold strA at h ⊢
  split at h
  · split at h
    · cases h
    · split at h
      · rename_i cs hr
        have hr2 : rowA H2 1 v = some cs := by
          cases v <;> simp only [rowA] at hr ⊢ <;> try exact hr
          split at hr
          · rename_i hn; rw [if_pos hn]; exact hr
          · rename_i hn
            rw [if_neg hn]
            split at hr
            · rename_i o ho
              rw [hH _ _ _ ho]; exact hr
            · cases hr
        split at h
        · rename_i hl
          simp only [Option.map_eq_some_iff] at h
          obtain ⟨ns, hn, rfl⟩ := h
          simp [hr2, hl, hn]
        · cases h
      · cases h
  · cases h
/-- Bytes as a text. -/
theorem nums_vals {x : Cx} : ∀ {cs : List AV} {vs : List Value} {ns : List Int}, VRL x cs vs → numsU8 cs = some ns → vs = ns.map (Value.int .u8)
  | _, _, ns, .nil, h => by
    simp only [numsU8, Option.some.injEq] at h
    subst h; rfl
  | _, _, ns, .cons c cs v vs h1 h2, h => by
    unfold numsU8 at h
    split at h
    · rename_i e; cases e
    · rename_i n cs' e
      injection e with e1 e2
      subst e1 e2
      simp only [Option.map_eq_some_iff] at h
      obtain ⟨ns', h3, rfl⟩ := h
      cases h1
      rw [nums_vals h2 h3]; rfl
    · cases h
theorem op_str {P : Program} {x : Cx} (hR : Rel x) {v : AV} {u : Value} (hv : VR x v u) {src dst e : TypeId} {a1 b1 : Nat} {z1 : List AV} {a2 b2 : Nat} {z2 : List AV} (h1 : ti P src = some ⟨.sl e, a1, b1, z1⟩) (h2 : ti P dst = some ⟨.str, a2, b2, z2⟩) {r : AV} {H' : Heap} (h : strA P x.H e v = some (r, H')) :
    DoneV P x (convert src dst u) r H' := by
  unfold strA at h
  split at h
  · rename_i m hE hm
    split at h
    · cases h
    · rename_i hns
      split at h
      · rename_i cs hrow
        split at h
        · rename_i hl
          simp only [Option.map_eq_some_iff, Prod.mk.injEq] at h
          obtain ⟨ns, hn, rfl, rfl⟩ := h
          obtain ⟨d1, i1, z3, hd1, _, _, e1⟩ := ti_spec h1
          obtain rfl := tdOf_sl (congrArg TI.d e1).symm
          obtain ⟨d2, i2, z4, hd2, _, _, e2⟩ := ti_spec h2
          obtain ⟨d3, i3, z5, hd3, _, _, e3⟩ := ti_spec hE
          obtain rfl := tdOf_int (congrArg TI.d e3).symm
          have hd2' : d2 = .string := by
            have : tdOf P d2 = .str := (congrArg TI.d e2).symm
            cases d2 <;> simp [tdOf] at this
            rfl
          subst hd2'
          obtain ⟨vs, k1, k2, k3⟩ := row_spec (P := P) hR hrow hm (by omega) hv
          have k4 := nums_vals k2 hn
          have hvl := k2.length
          have k5 := k3 x.w rfl m (Nat.le_refl _)
          rw [show vs.take (m * 1) = vs from List.take_of_length_le (by omega)] at k5
          have key : ∃ A cap, u = .slice A m cap := by
            cases hv <;> simp only [lenA, Option.some.injEq] at hm <;> try (cases hm; done)
            all_goals first
              | (subst hm; exact ⟨_, _, rfl⟩)
              | (rename_i hf; subst hm; cases hf <;> exact ⟨_, _, rfl⟩)
              | exact absurd rfl (hns _)
              | exact (hns _ rfl).elim
          obtain ⟨A, cap, rfl⟩ := key
          refine DoneV.same hR (u := .string (strOfNums ns)) ?_ (.str _)
          rw [run_convert_bytes_string x.w src dst e A m cap hd1 hd3 hd2]
          cases A with
          | none =>
            simp only [Builtin.firstCells, run_pure] at k5
            injection k5 with k5 _
            have : vs = [] := by simpa using congrArg Array.toList k5.symm
            rw [this] at k4
            have : ns = [] := by simpa using k4.symm
            subst this
            simp [Conv.bytesToString, strOfNums]
            rfl
          | some a =>
            simp only [Builtin.firstCells, Nat.mul_one] at k5
            rw [run_bytesToString x.w a m cap ns (by rw [k5, k4]), foldl_push_bytes]
            simp [strOfNums, ByteArray.empty, ByteArray.emptyWithCapacity]
            rfl
        · cases h
      · cases h
  · cases h
end Go.Proofs.YtffiddkignmobaaDoorVe
end
section
/- VE, part L: all operations but the calls of functions, joined. -/
namespace Go.Proofs.YtffiddkignmobaaDoorVe
theorem parts_mem {ps : Array (Nat × Operand)} {p : Nat × Operand} (hp : p ∈ ps.toList) : p.2 ∈ ((ps.toList.map (·.2)).toArray) := by
  simp only [List.mem_toArray, List.mem_map]
  exact ⟨p, hp, rfl⟩
theorem op_builtin {P : Program} {x : Cx} (hR : Rel x) {s : Nat} (hs : x.H s = []) {b : Builtin} {argTypes : Array TypeId} {args : Array Operand} {ρ : Operand → AV} {σ : Operand → Value} (hρ : ∀ q ∈ args, VR x (ρ q) (σ q)) {v : AV} {H' : Heap} (h : builtinA P s x.H b argTypes.toList (args.toList.map ρ) = some (v, H')) (type : TypeId) (consts : Array Bool) :
    Done P x (builtin b argTypes type consts (args.map σ)) v H' := by
  have hv : VRL x (args.toList.map ρ) (args.toList.map σ) := ev_args args.toList (fun q hq => hρ q (by simpa using hq))
  have hm : args.map σ = (args.toList.map σ).toArray := by apply Array.ext'; simp
  rw [hm]
  have ht : argTypes = argTypes.toList.toArray := by simp
  rw [ht]
  generalize argTypes.toList = ts at *
  generalize args.toList.map ρ = as at *
  generalize args.toList.map σ = vs at *
  clear hm ht
  unfold builtinA at h
  split at h
  · -- len
    rename_i t a
    cases hv with
    | cons _ _ u _ h1 hn =>
      cases hn
      split at h
      · rename_i a1 b1 z b hT
        obtain ⟨d, it, zv, hd, hi', hz, e1⟩ := ti_spec hT
        obtain rfl := tdOf_str (congrArg TI.d e1).symm
        simp only [Option.some.injEq, Prod.mk.injEq] at h
        obtain ⟨rfl, rfl⟩ := h
        cases h1
        exact (DoneV.same hR (m := Builtin.len_ #[t] type #[.string b]) (u := goInt b.size) (by simp [Builtin.len_, run_bind, run_underlying hd, run_pure]) (.int _ _)).done
      · rename_i e a1 b1 z hT
        obtain ⟨d, it, zv, hd, hi', hz, e1⟩ := ti_spec hT
        obtain rfl := tdOf_sl (congrArg TI.d e1).symm
        simp only [Option.some.injEq, Prod.mk.injEq] at h
        obtain ⟨rfl, rfl⟩ := h
        cases h1
        exact (DoneV.same hR (m := Builtin.len_ #[t] type #[.slice none 0 0]) (u := goInt 0) (by simp [Builtin.len_, run_bind, run_underlying hd, run_pure]) (.int _ _)).done
      · rename_i e a1 b1 z n cs hT
        obtain ⟨d, it, zv, hd, hi', hz, e1⟩ := ti_spec hT
        obtain rfl := tdOf_sl (congrArg TI.d e1).symm
        simp only [Option.some.injEq, Prod.mk.injEq] at h
        obtain ⟨rfl, rfl⟩ := h
        cases h1 with
        | fz _ _ _ hf =>
          cases hf with
          | sl0 A cap => exact (DoneV.same hR (m := Builtin.len_ #[t] type #[.slice A 0 cap]) (u := goInt 0) (by simp [Builtin.len_, run_bind, run_underlying hd, run_pure]) (.int _ _)).done
          | sl _ cap b off _ us k0 k1 k2 k3 k4 => exact (DoneV.same hR (m := Builtin.len_ #[t] type #[.slice (some ⟨b, off, none⟩) n cap]) (u := goInt n) (by simp [Builtin.len_, run_bind, run_underlying hd, run_pure]) (.int _ _)).done
      · rename_i e a1 b1 z s' j g off n hT
        obtain ⟨d, it, zv, hd, hi', hz, e1⟩ := ti_spec hT
        obtain rfl := tdOf_sl (congrArg TI.d e1).symm
        simp only [Option.some.injEq, Prod.mk.injEq] at h
        obtain ⟨rfl, rfl⟩ := h
        cases h1 with
        | sl _ _ _ _ _ cap av o g1 g2 g3 g4 =>
          exact (DoneV.same hR (m := Builtin.len_ #[t] type #[.slice (some av) n cap]) (u := goInt n) (by simp [Builtin.len_, run_bind, run_underlying hd, run_pure]) (.int _ _)).done
      · rename_i n e a1 b1 z hT
        obtain ⟨d, it, zv, hd, hi', hz, e1⟩ := ti_spec hT
        obtain rfl := tdOf_arr (congrArg TI.d e1).symm
        simp only [Option.some.injEq, Prod.mk.injEq] at h
        obtain ⟨rfl, rfl⟩ := h
        exact (DoneV.same hR (m := Builtin.len_ #[t] type #[u]) (u := goInt n) (by simp [Builtin.len_, run_bind, run_underlying hd, run_pure]) (.int _ _)).done
      · cases h
  · rename_i k a k' b
    simp only [Option.some.injEq, Prod.mk.injEq] at h
    obtain ⟨rfl, rfl⟩ := h
    cases hv with
    | cons _ _ u _ h1 hn =>
      cases h1
      cases hn with
      | cons _ _ u _ h1 hn =>
        cases h1
        cases hn
        exact (DoneV.same hR (m := Builtin.max_ ts.toArray type #[.int k a, .int k' b]) (u := .int k (if b > a then b else a)) (by simp [Builtin.max_, Builtin.max2, List.foldlM, run_bind, run_pure]) (.int _ _)).done
  · rename_i k a k' b
    simp only [Option.some.injEq, Prod.mk.injEq] at h
    obtain ⟨rfl, rfl⟩ := h
    cases hv with
    | cons _ _ u _ h1 hn =>
      cases h1
      cases hn with
      | cons _ _ u _ h1 hn =>
        cases h1
        cases hn
        exact (DoneV.same hR (m := Builtin.min_ ts.toArray type #[.int k a, .int k' b]) (u := .int k (if b < a then b else a)) (by simp [Builtin.min_, Builtin.min2, List.foldlM, run_bind, run_pure]) (.int _ _)).done
  · -- append
    rename_i t u a xa
    cases hv with
    | cons _ _ av _ h1 hn =>
      cases hn with
      | cons _ _ xv _ h2 hn =>
        cases hn
        split at h
        · rename_i e a1 b1 z1 U ht hu
          split at h
          · cases h
          rename_i hss
          replace hss : U.d.isSS = true := by simpa using hss
          split at h
          · rename_i T hT
            split at h
            · cases h
            · rename_i hz
              split at h
              · rename_i xs m hrow hm
                split at h
                · rename_i hc
                  exact (op_append hR hs ht hu hss hT (fun e => hz (.inr e)) hc.2.2.1 h1 h2 hrow hm hc.1 hc.2.1 hc.2.2.2 h type).done
                · cases h
              · cases h
          · cases h
        · cases h
  · -- copy
    rename_i t u s' j g off n xa
    cases hv with
    | cons _ _ av _ h1 hn =>
      cases hn with
      | cons _ _ xv _ h2 hn =>
        cases hn
        split at h
        · rename_i e a1 b1 z1 e2 a2 b2 z2 ht hu
          split at h
          · rename_i T hT
            split at h
            · rename_i xs m o hrow hm ho
              split at h
              · rename_i hc
                simp only [Option.some.injEq, Prod.mk.injEq] at h
                obtain ⟨rfl, rfl⟩ := h
                exact (op_copy (u := u) (e2 := e2) hR ht hT h1 h2 hrow hm hc.2.2.1 ho hc.1 hc.2.2.2.1 hc.2.2.2.2 type).done
              · cases h
            · cases h
          · cases h
        · cases h
  · cases h
theorem opE_sound {P : Program} {x : Cx} (hR : Rel x) {s : Nat} (hs : x.H s = []) {ρ : Operand → AV} {σ : Operand → Value} (o : Oper) (hρ : ∀ q ∈ o.op.operands, VR x (ρ q) (σ q)) {v : AV} {H' : Heap} (h : opE P s ρ x.H o.op = some (v, H')) :
    Done P x (execOp σ o) v H' := by
  obtain ⟨dst, op, type, pos, after, guard⟩ := o
  simp only at hρ h
  cases op with
  | move q =>
    simp only [opE, Option.some.injEq, Prod.mk.injEq] at h
    obtain ⟨rfl, rfl⟩ := h
    exact Done.same hR (u := σ q) rfl (hρ q (by simp [Op.operands]))
  | assign q =>
    simp only [opE, Option.some.injEq, Prod.mk.injEq] at h
    obtain ⟨rfl, rfl⟩ := h
    exact Done.same hR (u := σ q) rfl (hρ q (by simp [Op.operands]))
  | pick c a b =>
    have hc := hρ c (by simp [Op.operands])
    have ha := hρ a (by simp [Op.operands])
    have hb := hρ b (by simp [Op.operands])
    simp only [opE] at h
    split at h
    · rename_i e
      rw [e] at hc
      simp only [Option.some.injEq, Prod.mk.injEq] at h
      obtain ⟨rfl, rfl⟩ := h
      refine Done.same hR (u := σ a) ?_ ha
      generalize hcv : σ c = vc at *
      cases hc
      simp only [execOp, run_bind, hcv, asBool, run_pure, if_true]
    · rename_i e
      rw [e] at hc
      simp only [Option.some.injEq, Prod.mk.injEq] at h
      obtain ⟨rfl, rfl⟩ := h
      refine Done.same hR (u := σ b) ?_ hb
      generalize hcv : σ c = vc at *
      cases hc
      simp only [execOp, run_bind, hcv, asBool, run_pure, Bool.false_eq_true, if_false]
    · cases h
  | alloc t =>
    simp only [opE] at h
    split at h
    · rename_i T hT
      obtain ⟨d, i, z, hd, hi, hz, rfl⟩ := ti_spec hT
      split at h
      · rename_i hall
        simp only [Option.some.injEq, Prod.mk.injEq] at h
        obtain ⟨rfl, rfl⟩ := h
        obtain ⟨hrun, hcg⟩ := op_new (P := P) hR hs 0 (MZ_ne (by decide)) _ z.cells t (ofVal_cells x z) hall
        refine DoneV.done (DoneV.chg hR hcg (u := .pointer (some ⟨x.w.heap.size, 0, none⟩)) ?_ (vr_newptr x _ s 0 (MZ_ne (by decide)) _))
        simp only [Instr.alloc, run_bind, run_zeroValue hi hz, newVar, hrun, run_pure]
      · cases h
    · cases h
  | box t q =>
    have hq := hρ q (by simp [Op.operands])
    simp only [opE] at h
    split at h
    · rename_i hall
      simp only [Option.some.injEq, Prod.mk.injEq] at h
      obtain ⟨rfl, rfl⟩ := h
      obtain ⟨hrun, hcg⟩ := op_new (P := P) hR hs 0 (MZ_ne (by decide)) _ (σ q).cells t (hq.cells (AV.cells_ne_undef hall)) hall
      refine DoneV.done (DoneV.chg hR hcg (u := .pointer (some ⟨x.w.heap.size, 0, none⟩)) ?_ (vr_newptr x _ s 0 (MZ_ne (by decide)) _))
      simp only [Instr.box, run_bind, newVar, hrun, run_pure]
    · cases h
  | build t ps => exact (op_build hR (fun p hp => hρ p.2 (parts_mem hp)) s h).done
  | buildSlice t n ps => exact (op_buildSlice hR (fun p hp => hρ p.2 (parts_mem hp)) hs h).done
  | load t a =>
    have ha := hρ a (by simp [Op.operands])
    simp only [opE] at h
    split at h
    · rename_i T hT
      split at h
      · rename_i cs hl
        split at h
        · rename_i hg
          simp only [Option.some.injEq, Prod.mk.injEq] at h
          obtain ⟨rfl, rfl⟩ := h
          obtain ⟨r, h1, h2⟩ := op_load_agg hR ha hT hl hg
          exact (DoneV.same hR h1 h2).done
        · rename_i hg
          split at h
          · simp only [Option.some.injEq, Prod.mk.injEq] at h
            obtain ⟨rfl, rfl⟩ := h
            obtain ⟨r, h1, h2⟩ := op_load_one hR ha hT hl hg
            exact (DoneV.same hR h1 h2).done
          · cases h
      · cases h
    · cases h
  | store t a q =>
    have ha := hρ a (by simp [Op.operands])
    have hq := hρ q (by simp [Op.operands])
    simp only [opE] at h
    split at h
    · rename_i T s' j g off hT hav
      rw [hav] at ha
      split at h
      · rename_i o ho
        split at h
        · rename_i hc
          simp only [Option.some.injEq, Prod.mk.injEq] at h
          obtain ⟨rfl, rfl⟩ := h
          obtain ⟨w', h1, h2⟩ := op_store hR hT ha hq ho hc.1 hc.2.1 hc.2.2.1 hc.2.2.2
          exact Done.chg hR h2 (n := .skip) (u := undef) (.inr ⟨rfl, rfl⟩) (by simp only [execOp, run_bind, h1, run_pure]) (.undef _)
        · cases h
      · cases h
    · cases h
  | nilCheck q =>
    have hq := hρ q (by simp [Op.operands])
    simp only [opE] at h
    split at h
    · rename_i s' j g off e
      rw [e] at hq
      simp only [Option.some.injEq, Prod.mk.injEq] at h
      obtain ⟨rfl, rfl⟩ := h
      refine Done.same hR (u := σ q) ?_ hq
      generalize hqv : σ q = vq at *
      cases hq
      simp only [execOp, hqv, run_pure]
    · cases h
  | binOp op t p q yt =>
    have hp := hρ p (by simp [Op.operands])
    have hq := hρ q (by simp [Op.operands])
    simp only [opE] at h
    split at h
    · rename_i r hr
      simp only [Option.some.injEq, Prod.mk.injEq] at h
      obtain ⟨rfl, rfl⟩ := h
      exact (op_bin hR hp hq hr).done
    · cases hr : cmpA P op t (ρ p) (ρ q) with
      | none => rw [hr] at h; cases h
      | some r =>
        rw [hr] at h
        simp only [Option.map_some, Option.some.injEq, Prod.mk.injEq] at h
        obtain ⟨rfl, rfl⟩ := h
        exact (op_cmp hR hp hq hr).done
  | unOp op t q =>
    have hq := hρ q (by simp [Op.operands])
    simp only [opE] at h
    cases hr : unA op (ρ q) with
    | none => rw [hr] at h; cases h
    | some r =>
      rw [hr] at h
      simp only [Option.map_some, Option.some.injEq, Prod.mk.injEq] at h
      obtain ⟨rfl, rfl⟩ := h
      exact (op_un hR hq hr).done
  | convert src dst q =>
    have hq := hρ q (by simp [Op.operands])
    simp only [opE] at h
    split at h
    · rename_i T k a b z kk n hT1 hT2 e
      rw [e] at hq
      obtain ⟨d1, i1, z1, hd1, hi1, hz1, rfl⟩ := ti_spec hT1
      obtain ⟨d2, i2, z2, hd2, hi2, hz2, e2⟩ := ti_spec hT2
      obtain rfl := tdOf_int (congrArg TI.d e2).symm
      simp only [Option.some.injEq, Prod.mk.injEq] at h
      obtain ⟨rfl, rfl⟩ := h
      refine (DoneV.same hR (m := convert src dst (σ q)) (u := .int k (k.wrap n)) ?_ (.int _ _)).done
      generalize σ q = vq at *
      cases hq
      simp only [convert, run_bind, run_underlying hd1, run_underlying hd2]
      cases d1 <;> rfl
    · exact (op_str hR hq (by assumption) (by assumption) h).done
    · cases h
  | makeFunc fn first caps =>
    cases fn with
    | func f =>
      simp only [opE] at h
      split at h
      · rename_i hf
        simp only [Option.some.injEq, Prod.mk.injEq] at h
        obtain ⟨rfl, rfl⟩ := h
        have h0 : first = #[] := by simpa using hf
        subst h0
        have hv : VRL x (caps.toList.map ρ) (caps.toList.map σ) := ev_args caps.toList (fun q hq => hρ q (by simp [Op.operands]; exact Array.mem_toList_iff.1 hq))
        refine (DoneV.same hR (m := Instr.makeFunc (.func f) ((#[] : Array Operand).map σ) (caps.map σ)) (u := .func (.func f) #[] (caps.toList.map σ).toArray) ?_ (.fn f _ _ hv)).done
        simp only [Instr.makeFunc, run_pure]
        rw [show caps.map σ = (caps.toList.map σ).toArray by apply Array.ext'; simp, show (#[] : Array Operand).map σ = #[] by simp]
      · cases h
    | _ => simp only [opE] at h; cases h
  | makeSlice t l c => exact (op_makeSlice hR (hρ l (by simp [Op.operands])) (hρ c (by simp [Op.operands])) hs h).done
  | slice t p lo hi mx => exact (op_slice hR (hρ p (by simp [Op.operands])) (fun q hq => hρ q (by subst hq; simp [Op.operands])) (fun q hq => hρ q (by subst hq; simp [Op.operands])) s h).done
  | fieldAddr t p f => exact (op_fieldAddr hR (hρ p (by simp [Op.operands])) s h).done
  | indexAddr t p q => exact (op_indexAddr hR (hρ p (by simp [Op.operands])) (hρ q (by simp [Op.operands])) s h).done
  | index t p q => exact (op_index hR (hρ p (by simp [Op.operands])) (hρ q (by simp [Op.operands])) s h).done
  | extract q i =>
    have hq := hρ q (by simp [Op.operands])
    simp only [opE] at h
    split at h
    · rename_i vs e
      rw [e] at hq
      cases hv : vs[i]? with
      | none => rw [hv] at h; cases h
      | some a =>
        rw [hv] at h
        simp only [Option.map_some, Option.some.injEq, Prod.mk.injEq] at h
        obtain ⟨rfl, rfl⟩ := h
        generalize hqv : σ q = vq at *
        cases hq with
        | tup _ us hl =>
          obtain ⟨u, h1, h2⟩ := hl.get hv
          refine (DoneV.same hR (m := Instr.extract (.tuple us.toArray) i) (u := u) ?_ h2).done |> (by simpa [execOp, hqv] using ·)
          simp [Instr.extract, h1, run_pure]
    · cases h
  | call c =>
    simp only [opE] at h
    split at h
    · rename_i b hb
      have h1 := op_builtin hR hs (b := b) (argTypes := c.argTypes) (args := c.args) (ρ := ρ) (σ := σ) (fun q hq => hρ q (by simp only [Op.operands, Call.operands, hb]; simpa using hq)) h type (c.args.map fun | .const _ => true | _ => false)
      have e : execOp σ ⟨dst, .call c, type, pos, after, guard⟩ = builtin b c.argTypes type (c.args.map fun | .const _ => true | _ => false) (c.args.map σ) := by
        simp only [execOp, resolve, hb]
        rfl
      rw [e]
      exact h1
    · cases h
  | makeMap t r =>
    cases r with
    | some q => simp only [opE] at h; cases h
    | none =>
      simp only [opE, Option.some.injEq, Prod.mk.injEq] at h
      obtain ⟨rfl, rfl⟩ := h
      exact (op_makeMap hR hs t).done
  | lookup t m k ok =>
    simp only [opE] at h
    exact (op_getM hR (hρ m (by simp [Op.operands])) (hρ k (by simp [Op.operands])) h).done
  | mapUpdate t m k a =>
    simp only [opE] at h
    obtain ⟨w', y, h1, rfl, h2, rfl, h3, h4⟩ := op_putM hR (hρ m (by simp [Op.operands])) (hρ k (by simp [Op.operands])) (hρ a (by simp [Op.operands])) h
    exact ⟨.skip, undef, y, by simp only [execOp, run_bind, h1, run_pure], .inr ⟨rfl, rfl⟩, h2, h3, h4, .undef _⟩
  | insert t m k a =>
    simp only [opE] at h
    obtain ⟨w', y, h1, rfl, h2, rfl, h3, h4⟩ := op_putM hR (hρ m (by simp [Op.operands])) (hρ k (by simp [Op.operands])) (hρ a (by simp [Op.operands])) h
    exact ⟨.skip, undef, y, by simp only [execOp, run_bind, h1, run_pure], .inr ⟨rfl, rfl⟩, h2, h3, h4, .undef _⟩
  | _ => simp only [opE] at h; cases h
end Go.Proofs.YtffiddkignmobaaDoorVe
end
