/- A logic of abstract values and heaps over the model's steps, proved sound: for every program that follows mixed orders. -/
import Derived.Test.YtaoepnmhflmhhaaVe1
set_option linter.unusedVariables false
set_option linter.unusedSimpArgs false
section
/- VE, part K: slicing and the rest; all operations but calls. -/
namespace Go.Proofs.YtaoepnmhflmhhaaVe
def OptVR (x : Cx) : Option AV → Option Value → Prop
  | none, none => True
  | some a, some v => VR x a v
  | _, _ => False
theorem opt_ev {x : Cx} {ρ : Operand → AV} {σ : Operand → Value} (o : Option Operand) (h : ∀ q, o = some q → VR x (ρ q) (σ q)) : OptVR x (o.map ρ) (o.map σ) := by
  cases o with
  | none => trivial
  | some q => exact h q rfl
theorem low_spec {x : Cx} {a : Option AV} {v : Option Value} (h : OptVR x a v) {l : Int} (hl : lowA a = some l) : (v = none ∧ l = 0) ∨ ∃ k, v = some (.int k l) := by
  unfold lowA at hl
  split at hl
  · obtain rfl := Option.some.inj hl
    cases v with
    | none => exact .inl ⟨rfl, rfl⟩
    | some v => exact h.elim
  · obtain rfl := Option.some.inj hl
    cases v with
    | none => exact h.elim
    | some v =>
      simp only [OptVR] at h
      cases h
      exact .inr ⟨_, rfl⟩
  · cases hl
theorem high_spec {x : Cx} {n : Nat} {a : Option AV} {v : Option Value} (h : OptVR x a v) {l : Int} (hl : highA n a = some l) : (v = none ∧ l = n) ∨ ∃ k, v = some (.int k l) := by
  unfold highA at hl
  split at hl
  · obtain rfl := Option.some.inj hl
    cases v with
    | none => exact .inl ⟨rfl, rfl⟩
    | some v => exact h.elim
  · obtain rfl := Option.some.inj hl
    cases v with
    | none => exact h.elim
    | some v =>
      simp only [OptVR] at h
      cases h
      exact .inr ⟨_, rfl⟩
  · cases hl
theorem run_bounds {P : Program} {x : Cx} {lo hi : Option AV} {vl vh : Option Value} (hl : OptVR x lo vl) (hh : OptVR x hi vh) {l h : Int} {n cap : Nat} (e1 : lowA lo = some l) (e2 : highA n hi = some h) (hok : okInts l h n = true) (hc : n ≤ cap) (b : Bool) (w : World) :
    (Instr.sliceBounds b n cap vl vh none).run P w = .ok (l.toNat, h.toNat, cap) w := by
  simp only [okInts, decide_eq_true_eq] at hok
  have hb : ∀ (k : IntKind) (y : Nat) (c : BoundsCode) (i : Int), 0 ≤ i → i ≤ y → (Instr.sliceBound (.int k i) y c).run P w = .ok i.toNat w := by
    intro k y c i h0 h1
    simp only [Instr.sliceBound, run_bind, asIntOf, run_pure, h0, h1, and_self, if_true]
  rcases high_spec hh e2 with ⟨rfl, rfl⟩ | ⟨kh, rfl⟩
  · rcases low_spec hl e1 with ⟨rfl, rfl⟩ | ⟨kl, rfl⟩
    · simp [Instr.sliceBounds, run_bind, run_pure]
    · have := hb kl n .sliceB l (by omega) (by omega)
      simp [Instr.sliceBounds, run_bind, run_pure, this]
  · have h1 := hb kh cap (if b then .sliceAcap else .sliceAlen) h (by omega) (by omega)
    rcases low_spec hl e1 with ⟨rfl, rfl⟩ | ⟨kl, rfl⟩
    · simp [Instr.sliceBounds, run_bind, run_pure, h1]
    · have h2 := hb kl h.toNat .sliceB l (by omega) (by omega)
      simp [Instr.sliceBounds, run_bind, run_pure, h1, h2]
theorem op_slice {P : Program} {x : Cx} (hR : Rel x) {t : TypeId} {p : Operand} {lo hi mx : Option Operand} {ρ : Operand → AV} {σ : Operand → Value} (hp : VR x (ρ p) (σ p)) (hlo : ∀ q, lo = some q → VR x (ρ q) (σ q)) (hhi : ∀ q, hi = some q → VR x (ρ q) (σ q)) (s : Nat) {v : AV} {H' : Heap} (h : opE P s ρ x.H (.slice t p lo hi mx) = some (v, H')) :
    DoneV P x (Instr.sliceAt t (σ p) (lo.map σ) (hi.map σ) (mx.map σ)) v H' := by
  have hl := opt_ev lo hlo
  have hh := opt_ev hi hhi
  generalize σ p = u at *
  generalize lo.map σ = vl at *
  generalize hi.map σ = vh at *
  simp only [opE] at h
  split at h
  · rename_i a1 b1 z b hT hav
    rw [hav] at hp
    obtain ⟨d, it, zv, hd, hi', hz, e1⟩ := ti_spec hT
    obtain rfl := tdOf_str (congrArg TI.d e1).symm
    split at h
    · rename_i l hh' el eh
      split at h
      · rename_i hok
        simp only [Option.some.injEq, Prod.mk.injEq] at h
        obtain ⟨rfl, rfl⟩ := h
        cases hp
        refine DoneV.same hR (u := .string (b.extract l.toNat hh'.toNat)) ?_ (.str _)
        simp only [Instr.sliceAt, Instr.slice, run_bind, run_underlying hd, Option.map_none, Option.isSome_none, Bool.false_eq_true, if_false, run_pure, run_bounds hl hh el eh hok (Nat.le_refl _)]
      · cases h
    · cases h
  · rename_i e a1 b1 z s' j g off n hT hav
    rw [hav] at hp
    obtain ⟨d, it, zv, hd, hi', hz, e1⟩ := ti_spec hT
    obtain rfl := tdOf_sl (congrArg TI.d e1).symm
    split at h
    · rename_i T l hh' o2 hTe el eh ho2
      obtain ⟨de, ie, ze, hde, hie, hze, rfl⟩ := ti_spec hTe
      split at h
      · rename_i hok
        obtain ⟨hok, hoz⟩ := hok
        replace hoz : o2.z = ie.size := hoz
        simp only [Option.some.injEq, Prod.mk.injEq] at h
        obtain ⟨rfl, rfl⟩ := h
        cases hp with
        | sl _ _ _ _ _ cap av o g1 g2 g3 g4 =>
          rw [ho2] at g1
          obtain rfl := Option.some.inj g1
          have hok' := hok
          simp only [okInts, decide_eq_true_eq] at hok'
          refine DoneV.same hR (u := .slice (some (if cap = l.toNat then av else av.add (l.toNat * ie.size))) (hh'.toNat - l.toNat) (cap - l.toNat)) ?_ ?_
          · simp only [Instr.sliceAt, Instr.slice, run_bind, run_underlying hd, Option.map_none, run_pure, run_bounds hl hh el eh hok g3, run_sizeOf hie]
            split <;> simp
          · rw [show (hh' - l).toNat = hh'.toNat - l.toNat by omega]
            refine .sl s' j g _ _ _ _ o2 ho2 g2 (by omega) (fun hg => ?_)
            obtain ⟨p, c, e', rfl, h6, h7, h5⟩ := g4 hg
            by_cases hcl : cap = l.toNat
            · rw [if_pos hcl]
              have hp : p ≤ c.size := by
                have := Nat.zero_le (cap * o2.z)
                omega
              refine ⟨p, c, e', rfl, h6, by rw [hcl]; simpa using hp, .inl (by omega)⟩
            · rcases h5 with h5 | rfl
              · omega
              · rw [if_neg hcl, add_off]
                refine ⟨_, c, e', rfl, h6, ?_, .inr (by rw [Nat.add_assoc])⟩
                rw [hoz] at h7 ⊢
                have h8 : (cap - l.toNat) * ie.size = cap * ie.size - l.toNat * ie.size := Nat.sub_mul _ _ _
                have h9 : l.toNat * ie.size ≤ cap * ie.size := Nat.mul_le_mul_right _ (by omega)
                omega
      · cases h
    · cases h
  · rename_i e a1 b1 z n cs hT hav
    rw [hav] at hp
    obtain ⟨d, it, zv, hd, hi', hz, e1⟩ := ti_spec hT
    obtain rfl := tdOf_sl (congrArg TI.d e1).symm
    split at h
    · rename_i T l hh' hTe el eh
      obtain ⟨de, ie, ze, hde, hie, hze, rfl⟩ := ti_spec hTe
      split at h
      · rename_i hok
        have hok' := hok
        simp only [okInts, decide_eq_true_eq] at hok'
        simp only [Option.some.injEq, Prod.mk.injEq] at h
        obtain ⟨rfl, rfl⟩ := h
        cases hp with
        | fz _ _ _ hf =>
          have hrun : ∀ (A : Option Addr) (cap : Nat), n ≤ cap → (Instr.sliceAt t (.slice A n cap) vl vh ((none : Option Operand).map σ)).run P x.w = .ok (.slice (if cap = l.toNat then A else A.map (·.add (l.toNat * ie.size))) (hh'.toNat - l.toNat) (cap - l.toNat)) x.w := by
            intro A cap hc
            simp only [Instr.sliceAt, Instr.slice, run_bind, run_underlying hd, Option.map_none, run_pure, run_bounds hl hh el eh hok hc, run_sizeOf hie]
          cases hf with
          | sl0 A cap =>
            refine DoneV.same hR (hrun A cap (Nat.zero_le _)) ?_
            have e0 : (hh' - l).toNat = 0 := by omega
            have e3 : hh'.toNat - l.toNat = 0 := by omega
            rw [e0, e3]
            simp only [Nat.zero_mul, List.take_zero]
            exact .fz _ _ _ (.sl0 _ _)
          | sl _ cap b off _ vs k0 k1 k2 k3 k4 =>
            refine DoneV.same hR (hrun _ cap k1) ?_
            rw [show (hh' - l).toNat = hh'.toNat - l.toNat by omega]
            by_cases hz0 : hh'.toNat - l.toNat = 0
            · rw [hz0]
              simp only [Nat.zero_mul, List.take_zero]
              exact .fz _ _ _ (.sl0 _ _)
            · have hcl : ¬ cap = l.toNat := by omega
              rw [if_neg hcl]
              simp only [Option.map_some, add_off]
              refine .fz _ _ _ (.sl _ _ b _ _ ((vs.drop (l.toNat * ie.size)).take ((hh'.toNat - l.toNat) * ie.size)) hz0 (by omega) (fun i v hv => ?_) (FRL.take _ (FRL.drop _ k3)) k4)
              rw [List.getElem?_take] at hv
              split at hv
              · rw [List.getElem?_drop] at hv
                rw [Nat.add_assoc]
                exact k2 _ v hv
              · cases hv
      · cases h
    · cases h
  · rename_i e a1 b1 z hT hav
    rw [hav] at hp
    obtain ⟨d, it, zv, hd, hi', hz, e1⟩ := ti_spec hT
    obtain rfl := tdOf_sl (congrArg TI.d e1).symm
    split at h
    · rename_i T l hh' hTe el eh
      obtain ⟨de, ie, ze, hde, hie, hze, rfl⟩ := ti_spec hTe
      split at h
      · rename_i hok
        have hok' := hok
        simp only [okInts, decide_eq_true_eq] at hok'
        simp only [Option.some.injEq, Prod.mk.injEq] at h
        obtain ⟨rfl, rfl⟩ := h
        obtain rfl : l = 0 := by omega
        obtain rfl : hh' = 0 := by omega
        cases hp
        refine DoneV.same hR (u := .slice none 0 0) ?_ .nil
        simp only [Instr.sliceAt, Instr.slice, run_bind, run_underlying hd, Option.map_none, run_pure, run_bounds hl hh el eh hok (Nat.le_refl _), run_sizeOf hie]
        simp
      · cases h
    · cases h
  · cases h
theorem op_fieldAddr {P : Program} {x : Cx} (hR : Rel x) {t : TypeId} {p : Operand} {f : Nat} {ρ : Operand → AV} {σ : Operand → Value} (hp : VR x (ρ p) (σ p)) (s : Nat) {v : AV} {H' : Heap} (h : opE P s ρ x.H (.fieldAddr t p f) = some (v, H')) :
    DoneV P x (Instr.fieldAt t (σ p) f) v H' := by
  generalize σ p = u at *
  simp only [opE] at h
  split at h
  · rename_i fs a1 b1 z s' j g off hT hav
    rw [hav] at hp
    obtain ⟨d, it, zv, hd, hi', hz, e1, hokd⟩ := ti_spec' hT
    obtain ⟨fl, rfl, e2⟩ := tdOf_st (congrArg TI.d e1).symm
    replace e2 : fs = fl.toList.map fun f => (f.offset, sz P f.type) := e2
    split at h
    · rename_i o n hf
      split at h
      · cases h
      · rename_i hn
        simp only [Option.some.injEq, Prod.mk.injEq] at h
        obtain ⟨rfl, rfl⟩ := h
        rw [e2, List.getElem?_map] at hf
        cases hfl : fl.toList[f]? with
        | none => rw [hfl] at hf; cases hf
        | some fd =>
          rw [hfl] at hf
          simp only [Option.map_some, Option.some.injEq, Prod.mk.injEq] at hf
          obtain ⟨rfl, rfl⟩ := hf
          have hmem : (P.info? fd.type).isSome = true := by
            have h1 : fl.toList.all (fun f => (P.info? f.type).isSome) = true := hokd
            exact List.all_eq_true.1 h1 fd (List.mem_of_getElem? hfl)
          obtain ⟨ifd, hifd⟩ := Option.isSome_iff_exists.1 hmem
          have hsz : ifd.size ≠ 0 := by simpa [sz, hifd] using hn
          cases hp with
          | ptr _ _ _ _ av o1 g1 g2 g3 =>
            refine DoneV.same hR (u := .pointer (some (av.add fd.offset))) ?_ (.ptr s' j g _ _ o1 g1 g2 (fun hg => ?_))
            · have hfa : fl[f]? = some fd := by simpa using hfl
              simp only [Instr.fieldAt, Instr.sureAddr, run_bind, run_underlying hd, hfa, run_pure, fieldPlace, run_sizeOf hifd, hsz, if_false]
            · rw [g3 hg, add_off, Nat.add_assoc]
    · cases h
  · cases h
theorem op_index {P : Program} {x : Cx} (hR : Rel x) {t : TypeId} {p q : Operand} {ρ : Operand → AV} {σ : Operand → Value} (hp : VR x (ρ p) (σ p)) (hq : VR x (ρ q) (σ q)) (s : Nat) {v : AV} {H' : Heap} (h : opE P s ρ x.H (.index t p q) = some (v, H')) :
    DoneV P x (Instr.index t (σ p) (σ q)) v H' := by
  generalize σ p = u at *
  generalize σ q = i at *
  simp only [opE] at h
  split at h
  · rename_i a1 b1 z b hT hav
    rw [hav] at hp
    obtain ⟨d, it, zv, hd, hi', hz, e1⟩ := ti_spec hT
    obtain rfl := tdOf_str (congrArg TI.d e1).symm
    split at h
    · rename_i m hidx
      obtain ⟨k, n', rfl, h0, h1, rfl⟩ := idx_spec hq hidx
      cases hc : b.data[n'.toNat]? with
      | none => rw [hc] at h; cases h
      | some c =>
        rw [hc] at h
        simp only [Option.map_some, Option.some.injEq, Prod.mk.injEq] at h
        obtain ⟨rfl, rfl⟩ := h
        cases hp
        refine DoneV.same hR (u := .int .u8 c.toNat) ?_ (.int _ _)
        have hb : b[n'.toNat]? = some c := by
          have hlt : n'.toNat < b.size := by omega
          have hlt2 : n'.toNat < b.data.size := hlt
          rw [Array.getElem?_eq_getElem hlt2] at hc
          rw [getElem?_pos b n'.toNat hlt]
          exact hc
        simp only [Instr.index, run_bind, asIntOf, run_pure, run_underlying hd, h0, if_true, hb]
    · cases h
  · cases h
end Go.Proofs.YtaoepnmhflmhhaaVe
end
section
/- VE, part L: all operations but the calls of functions, joined. -/
namespace Go.Proofs.YtaoepnmhflmhhaaVe
theorem parts_mem {ps : Array (Nat × Operand)} {p : Nat × Operand} (hp : p ∈ ps.toList) : p.2 ∈ ((ps.toList.map (·.2)).toArray) := by
  simp only [List.mem_toArray, List.mem_map]
  exact ⟨p, hp, rfl⟩
theorem op_builtin {P : Program} {x : Cx} (hR : Rel x) {s : Nat} (hs : x.H s = []) {b : Builtin} {argTypes : Array TypeId} {args : Array Operand} {ρ : Operand → AV} {σ : Operand → Value} (hρ : ∀ q ∈ args, VR x (ρ q) (σ q)) {v : AV} {H' : Heap} (h : builtinA P s x.H b argTypes.toList (args.toList.map ρ) = some (v, H')) (type : TypeId) (consts : Array Bool) :
    Done P x (builtin b argTypes type consts (args.map σ)) v H' := by
  have hv : VRL x (args.toList.map ρ) (args.toList.map σ) := ev_args args.toList (fun q hq => hρ q (by simpa using hq))
  have hm : args.map σ = (args.toList.map σ).toArray := by apply Array.ext'; simp
  rw [hm]
  have ht : argTypes = argTypes.toList.toArray := by simp
  rw [ht]
  generalize argTypes.toList = ts at *
  generalize args.toList.map ρ = as at *
  generalize args.toList.map σ = vs at *
  clear hm ht
  unfold builtinA at h
  split at h
  · -- len
    rename_i t a
    cases hv with
    | cons _ _ u _ h1 hn =>
      cases hn
      split at h
      · rename_i a1 b1 z b hT
        obtain ⟨d, it, zv, hd, hi', hz, e1⟩ := ti_spec hT
        obtain rfl := tdOf_str (congrArg TI.d e1).symm
        simp only [Option.some.injEq, Prod.mk.injEq] at h
        obtain ⟨rfl, rfl⟩ := h
        cases h1
        exact (DoneV.same hR (m := Builtin.len_ #[t] type #[.string b]) (u := goInt b.size) (by simp [Builtin.len_, run_bind, run_underlying hd, run_pure]) (.int _ _)).done
      · rename_i e a1 b1 z hT
        obtain ⟨d, it, zv, hd, hi', hz, e1⟩ := ti_spec hT
        obtain rfl := tdOf_sl (congrArg TI.d e1).symm
        simp only [Option.some.injEq, Prod.mk.injEq] at h
        obtain ⟨rfl, rfl⟩ := h
        cases h1
        exact (DoneV.same hR (m := Builtin.len_ #[t] type #[.slice none 0 0]) (u := goInt 0) (by simp [Builtin.len_, run_bind, run_underlying hd, run_pure]) (.int _ _)).done
      · rename_i e a1 b1 z n cs hT
        obtain ⟨d, it, zv, hd, hi', hz, e1⟩ := ti_spec hT
        obtain rfl := tdOf_sl (congrArg TI.d e1).symm
        simp only [Option.some.injEq, Prod.mk.injEq] at h
        obtain ⟨rfl, rfl⟩ := h
        cases h1 with
        | fz _ _ _ hf =>
          cases hf with
          | sl0 A cap => exact (DoneV.same hR (m := Builtin.len_ #[t] type #[.slice A 0 cap]) (u := goInt 0) (by simp [Builtin.len_, run_bind, run_underlying hd, run_pure]) (.int _ _)).done
          | sl _ cap b off _ us k0 k1 k2 k3 k4 => exact (DoneV.same hR (m := Builtin.len_ #[t] type #[.slice (some ⟨b, off, none⟩) n cap]) (u := goInt n) (by simp [Builtin.len_, run_bind, run_underlying hd, run_pure]) (.int _ _)).done
      · rename_i e a1 b1 z s' j g off n hT
        obtain ⟨d, it, zv, hd, hi', hz, e1⟩ := ti_spec hT
        obtain rfl := tdOf_sl (congrArg TI.d e1).symm
        simp only [Option.some.injEq, Prod.mk.injEq] at h
        obtain ⟨rfl, rfl⟩ := h
        cases h1 with
        | sl _ _ _ _ _ cap av o g1 g2 g3 g4 =>
          exact (DoneV.same hR (m := Builtin.len_ #[t] type #[.slice (some av) n cap]) (u := goInt n) (by simp [Builtin.len_, run_bind, run_underlying hd, run_pure]) (.int _ _)).done
      · rename_i n e a1 b1 z hT
        obtain ⟨d, it, zv, hd, hi', hz, e1⟩ := ti_spec hT
        obtain rfl := tdOf_arr (congrArg TI.d e1).symm
        simp only [Option.some.injEq, Prod.mk.injEq] at h
        obtain ⟨rfl, rfl⟩ := h
        exact (DoneV.same hR (m := Builtin.len_ #[t] type #[u]) (u := goInt n) (by simp [Builtin.len_, run_bind, run_underlying hd, run_pure]) (.int _ _)).done
      · cases h
  · rename_i k a k' b
    simp only [Option.some.injEq, Prod.mk.injEq] at h
    obtain ⟨rfl, rfl⟩ := h
    cases hv with
    | cons _ _ u _ h1 hn =>
      cases h1
      cases hn with
      | cons _ _ u _ h1 hn =>
        cases h1
        cases hn
        exact (DoneV.same hR (m := Builtin.max_ ts.toArray type #[.int k a, .int k' b]) (u := .int k (if b > a then b else a)) (by simp [Builtin.max_, Builtin.max2, List.foldlM, run_bind, run_pure]) (.int _ _)).done
  · rename_i k a k' b
    simp only [Option.some.injEq, Prod.mk.injEq] at h
    obtain ⟨rfl, rfl⟩ := h
    cases hv with
    | cons _ _ u _ h1 hn =>
      cases h1
      cases hn with
      | cons _ _ u _ h1 hn =>
        cases h1
        cases hn
        exact (DoneV.same hR (m := Builtin.min_ ts.toArray type #[.int k a, .int k' b]) (u := .int k (if b < a then b else a)) (by simp [Builtin.min_, Builtin.min2, List.foldlM, run_bind, run_pure]) (.int _ _)).done
  · -- append
    rename_i t u a xa
    cases hv with
    | cons _ _ av _ h1 hn =>
      cases hn with
      | cons _ _ xv _ h2 hn =>
        cases hn
        split at h
        · rename_i e a1 b1 z1 e2 a2 b2 z2 ht hu
          split at h
          · rename_i T hT
            split at h
            · cases h
            · rename_i hz
              split at h
              · rename_i xs m hrow hm
                split at h
                · rename_i hc
                  exact (op_append hR hs ht hu hT (fun e => hz (.inr e)) hc.2.2.1 h1 h2 hrow hm hc.1 hc.2.1 hc.2.2.2 h type).done
                · cases h
              · cases h
          · cases h
        · cases h
  · -- copy
    rename_i t u s' j g off n xa
    cases hv with
    | cons _ _ av _ h1 hn =>
      cases hn with
      | cons _ _ xv _ h2 hn =>
        cases hn
        split at h
        · rename_i e a1 b1 z1 e2 a2 b2 z2 ht hu
          split at h
          · rename_i T hT
            split at h
            · rename_i xs m o hrow hm ho
              split at h
              · rename_i hc
                simp only [Option.some.injEq, Prod.mk.injEq] at h
                obtain ⟨rfl, rfl⟩ := h
                exact (op_copy (u := u) (e2 := e2) hR ht hT h1 h2 hrow hm hc.2.2.1 ho hc.1 hc.2.2.2.1 hc.2.2.2.2 type).done
              · cases h
            · cases h
          · cases h
        · cases h
  · cases h
theorem opE_sound {P : Program} {x : Cx} (hR : Rel x) {s : Nat} (hs : x.H s = []) {ρ : Operand → AV} {σ : Operand → Value} (o : Oper) (hρ : ∀ q ∈ o.op.operands, VR x (ρ q) (σ q)) {v : AV} {H' : Heap} (h : opE P s ρ x.H o.op = some (v, H')) :
    Done P x (execOp σ o) v H' := by
  obtain ⟨dst, op, type, pos, after, guard⟩ := o
  simp only at hρ h
  cases op with
  | move q =>
    simp only [opE, Option.some.injEq, Prod.mk.injEq] at h
    obtain ⟨rfl, rfl⟩ := h
    exact Done.same hR (u := σ q) rfl (hρ q (by simp [Op.operands]))
  | assign q =>
    simp only [opE, Option.some.injEq, Prod.mk.injEq] at h
    obtain ⟨rfl, rfl⟩ := h
    exact Done.same hR (u := σ q) rfl (hρ q (by simp [Op.operands]))
  | pick c a b =>
    have hc := hρ c (by simp [Op.operands])
    have ha := hρ a (by simp [Op.operands])
    have hb := hρ b (by simp [Op.operands])
    simp only [opE] at h
    split at h
    · rename_i e
      rw [e] at hc
      simp only [Option.some.injEq, Prod.mk.injEq] at h
      obtain ⟨rfl, rfl⟩ := h
      refine Done.same hR (u := σ a) ?_ ha
      generalize hcv : σ c = vc at *
      cases hc
      simp only [execOp, run_bind, hcv, asBool, run_pure, if_true]
    · rename_i e
      rw [e] at hc
      simp only [Option.some.injEq, Prod.mk.injEq] at h
      obtain ⟨rfl, rfl⟩ := h
      refine Done.same hR (u := σ b) ?_ hb
      generalize hcv : σ c = vc at *
      cases hc
      simp only [execOp, run_bind, hcv, asBool, run_pure, Bool.false_eq_true, if_false]
    · cases h
  | alloc t =>
    simp only [opE] at h
    split at h
    · rename_i T hT
      obtain ⟨d, i, z, hd, hi, hz, rfl⟩ := ti_spec hT
      split at h
      · rename_i hall
        simp only [Option.some.injEq, Prod.mk.injEq] at h
        obtain ⟨rfl, rfl⟩ := h
        obtain ⟨hrun, hcg⟩ := op_new (P := P) hR hs 0 _ z.cells t (ofVal_cells x z) hall
        refine DoneV.done (DoneV.chg hR hcg (u := .pointer (some ⟨x.w.heap.size, 0, none⟩)) ?_ (vr_newptr x _ s 0 _))
        simp only [Instr.alloc, run_bind, run_zeroValue hi hz, newVar, hrun, run_pure]
      · cases h
    · cases h
  | box t q =>
    have hq := hρ q (by simp [Op.operands])
    simp only [opE] at h
    split at h
    · rename_i hall
      simp only [Option.some.injEq, Prod.mk.injEq] at h
      obtain ⟨rfl, rfl⟩ := h
      obtain ⟨hrun, hcg⟩ := op_new (P := P) hR hs 0 _ (σ q).cells t (hq.cells (AV.cells_ne_undef hall)) hall
      refine DoneV.done (DoneV.chg hR hcg (u := .pointer (some ⟨x.w.heap.size, 0, none⟩)) ?_ (vr_newptr x _ s 0 _))
      simp only [Instr.box, run_bind, newVar, hrun, run_pure]
    · cases h
  | build t ps => exact (op_build hR (fun p hp => hρ p.2 (parts_mem hp)) s h).done
  | buildSlice t n ps => exact (op_buildSlice hR (fun p hp => hρ p.2 (parts_mem hp)) hs h).done
  | load t a =>
    have ha := hρ a (by simp [Op.operands])
    simp only [opE] at h
    split at h
    · rename_i T hT
      split at h
      · rename_i cs hl
        split at h
        · rename_i hg
          simp only [Option.some.injEq, Prod.mk.injEq] at h
          obtain ⟨rfl, rfl⟩ := h
          obtain ⟨r, h1, h2⟩ := op_load_agg hR ha hT hl hg
          exact (DoneV.same hR h1 h2).done
        · rename_i hg
          split at h
          · simp only [Option.some.injEq, Prod.mk.injEq] at h
            obtain ⟨rfl, rfl⟩ := h
            obtain ⟨r, h1, h2⟩ := op_load_one hR ha hT hl hg
            exact (DoneV.same hR h1 h2).done
          · cases h
      · cases h
    · cases h
  | store t a q =>
    have ha := hρ a (by simp [Op.operands])
    have hq := hρ q (by simp [Op.operands])
    simp only [opE] at h
    split at h
    · rename_i T s' j g off hT hav
      rw [hav] at ha
      split at h
      · rename_i o ho
        split at h
        · rename_i hc
          simp only [Option.some.injEq, Prod.mk.injEq] at h
          obtain ⟨rfl, rfl⟩ := h
          obtain ⟨w', h1, h2⟩ := op_store hR hT ha hq ho hc.1 hc.2.1 hc.2.2.1 hc.2.2.2
          exact Done.chg hR h2 (n := .skip) (u := undef) (.inr ⟨rfl, rfl⟩) (by simp only [execOp, run_bind, h1, run_pure]) (.undef _)
        · cases h
      · cases h
    · cases h
  | nilCheck q =>
    have hq := hρ q (by simp [Op.operands])
    simp only [opE] at h
    split at h
    · rename_i s' j g off e
      rw [e] at hq
      simp only [Option.some.injEq, Prod.mk.injEq] at h
      obtain ⟨rfl, rfl⟩ := h
      refine Done.same hR (u := σ q) ?_ hq
      generalize hqv : σ q = vq at *
      cases hq
      simp only [execOp, hqv, run_pure]
    · cases h
  | binOp op t p q yt =>
    have hp := hρ p (by simp [Op.operands])
    have hq := hρ q (by simp [Op.operands])
    simp only [opE] at h
    split at h
    · rename_i r hr
      simp only [Option.some.injEq, Prod.mk.injEq] at h
      obtain ⟨rfl, rfl⟩ := h
      exact (op_bin hR hp hq hr).done
    · cases hr : cmpA P op t (ρ p) (ρ q) with
      | none => rw [hr] at h; cases h
      | some r =>
        rw [hr] at h
        simp only [Option.map_some, Option.some.injEq, Prod.mk.injEq] at h
        obtain ⟨rfl, rfl⟩ := h
        exact (op_cmp hR hp hq hr).done
  | unOp op t q =>
    have hq := hρ q (by simp [Op.operands])
    simp only [opE] at h
    cases hr : unA op (ρ q) with
    | none => rw [hr] at h; cases h
    | some r =>
      rw [hr] at h
      simp only [Option.map_some, Option.some.injEq, Prod.mk.injEq] at h
      obtain ⟨rfl, rfl⟩ := h
      exact (op_un hR hq hr).done
  | convert src dst q =>
    have hq := hρ q (by simp [Op.operands])
    simp only [opE] at h
    split at h
    · rename_i T k a b z kk n hT1 hT2 e
      rw [e] at hq
      obtain ⟨d1, i1, z1, hd1, hi1, hz1, rfl⟩ := ti_spec hT1
      obtain ⟨d2, i2, z2, hd2, hi2, hz2, e2⟩ := ti_spec hT2
      obtain rfl := tdOf_int (congrArg TI.d e2).symm
      simp only [Option.some.injEq, Prod.mk.injEq] at h
      obtain ⟨rfl, rfl⟩ := h
      refine (DoneV.same hR (m := convert src dst (σ q)) (u := .int k (k.wrap n)) ?_ (.int _ _)).done
      generalize σ q = vq at *
      cases hq
      simp only [convert, run_bind, run_underlying hd1, run_underlying hd2]
      cases d1 <;> rfl
    · cases h
  | makeFunc fn first caps =>
    cases fn with
    | func f =>
      simp only [opE] at h
      split at h
      · rename_i hf
        simp only [Option.some.injEq, Prod.mk.injEq] at h
        obtain ⟨rfl, rfl⟩ := h
        have h0 : first = #[] := by simpa using hf
        subst h0
        have hv : VRL x (caps.toList.map ρ) (caps.toList.map σ) := ev_args caps.toList (fun q hq => hρ q (by simp [Op.operands]; exact Array.mem_toList_iff.1 hq))
        refine (DoneV.same hR (m := Instr.makeFunc (.func f) ((#[] : Array Operand).map σ) (caps.map σ)) (u := .func (.func f) #[] (caps.toList.map σ).toArray) ?_ (.fn f _ _ hv)).done
        simp only [Instr.makeFunc, run_pure]
        rw [show caps.map σ = (caps.toList.map σ).toArray by apply Array.ext'; simp, show (#[] : Array Operand).map σ = #[] by simp]
      · cases h
    | _ => simp only [opE] at h; cases h
  | makeSlice t l c => exact (op_makeSlice hR (hρ l (by simp [Op.operands])) (hρ c (by simp [Op.operands])) hs h).done
  | slice t p lo hi mx => exact (op_slice hR (hρ p (by simp [Op.operands])) (fun q hq => hρ q (by subst hq; simp [Op.operands])) (fun q hq => hρ q (by subst hq; simp [Op.operands])) s h).done
  | fieldAddr t p f => exact (op_fieldAddr hR (hρ p (by simp [Op.operands])) s h).done
  | indexAddr t p q => exact (op_indexAddr hR (hρ p (by simp [Op.operands])) (hρ q (by simp [Op.operands])) s h).done
  | index t p q => exact (op_index hR (hρ p (by simp [Op.operands])) (hρ q (by simp [Op.operands])) s h).done
  | extract q i =>
    have hq := hρ q (by simp [Op.operands])
    simp only [opE] at h
    split at h
    · rename_i vs e
      rw [e] at hq
      cases hv : vs[i]? with
      | none => rw [hv] at h; cases h
      | some a =>
        rw [hv] at h
        simp only [Option.map_some, Option.some.injEq, Prod.mk.injEq] at h
        obtain ⟨rfl, rfl⟩ := h
        generalize hqv : σ q = vq at *
        cases hq with
        | tup _ us hl =>
          obtain ⟨u, h1, h2⟩ := hl.get hv
          refine (DoneV.same hR (m := Instr.extract (.tuple us.toArray) i) (u := u) ?_ h2).done |> (by simpa [execOp, hqv] using ·)
          simp [Instr.extract, h1, run_pure]
    · cases h
  | call c =>
    simp only [opE] at h
    split at h
    · rename_i b hb
      have h1 := op_builtin hR hs (b := b) (argTypes := c.argTypes) (args := c.args) (ρ := ρ) (σ := σ) (fun q hq => hρ q (by simp only [Op.operands, Call.operands, hb]; simpa using hq)) h type (c.args.map fun | .const _ => true | _ => false)
      have e : execOp σ ⟨dst, .call c, type, pos, after, guard⟩ = builtin b c.argTypes type (c.args.map fun | .const _ => true | _ => false) (c.args.map σ) := by
        simp only [execOp, resolve, hb]
        rfl
      rw [e]
      exact h1
    · cases h
  | _ => simp only [opE] at h; cases h
end Go.Proofs.YtaoepnmhflmhhaaVe
end
