/- A typed weakest precondition over that logic, proved sound: for every program with a table of types that fits it. -/
import Derived.Test.YtffiddkignmobaaDoorTv2
set_option linter.unusedVariables false
set_option linter.unusedSimpArgs false
section
/- TV, part Q: every operation is sound. -/
namespace Go.Proofs.YtffiddkignmobaaDoorTv
open Go.Proofs.YtffiddkignmobaaDoorVe
section
variable {P : Program} {tab : List (Nat × TE)} {m : MS} {σ : List Obj} {s : Nat} {ρ : Operand → V} {ρv : Operand → AV} {K : V → List Obj → Prop}
theorem sz_ti {t : TypeId} {i : TI} (h : ti P t = some i) : sz P t = i.size := by
  unfold ti at h
  unfold sz
  split at h
  · rename_i e1 e2
    split at h
    · split at h
      · injection h with h; subst h; simp [e2]
      · cases h
    · cases h
  · cases h
theorem builtin_sound (hT : TabOk P tab) (hS : St m σ) (hs : m.H s = []) {b : Builtin} {as : Array Operand} {ts : Array TypeId} (hρ : ∀ q ∈ as.toList, VT m σ (ρ q) (ρv q)) (h : builtinT tab σ b ts.toList (as.toList.map ρ) K) : Snd P m σ s ρv (.call ⟨.builtin b, as, ts⟩) K := by
  generalize hts : ts.toList = tl at h
  generalize has : as.toList.map ρ = vl at h
  have h0 := h
  unfold builtinT at h
  split at h
  · rename_i t v K'
    match hal : as.toList, has with
    | [q], has =>
      simp only [List.map_cons, List.map_nil, List.cons.injEq, and_true] at has
      subst has
      exact len_sound hT hS hal hts (hρ q (by simp [hal])) h0
  · rename_i k a k' b' K' hx
    have hl2 : as.toList.length = 2 := by rw [← List.length_map (f := ρ), has]; rfl
    match hal : as.toList, has, hl2 with
    | [p, q], has, _ =>
      simp only [List.map_cons, List.map_nil, List.cons.injEq, and_true] at has
      obtain ⟨rfl, h⟩ := h
      have hp := hρ p (by simp [hal])
      have hq := hρ q (by simp [hal])
      rw [has.1] at hp
      rw [has.2] at hq
      exact Snd.same hS (by simp only [opE, hal, hts, List.map, builtinA, hp.int_inv, hq.int_inv]; rfl) (VT.int _) h
  · rename_i k a k' b' K' hx
    have hl2 : as.toList.length = 2 := by rw [← List.length_map (f := ρ), has]; rfl
    match hal : as.toList, has, hl2 with
    | [p, q], has, _ =>
      simp only [List.map_cons, List.map_nil, List.cons.injEq, and_true] at has
      obtain ⟨rfl, h⟩ := h
      have hp := hρ p (by simp [hal])
      have hq := hρ q (by simp [hal])
      rw [has.1] at hp
      rw [has.2] at hq
      exact Snd.same hS (by simp only [opE, hal, hts, List.map, builtinA, hp.int_inv, hq.int_inv]; rfl) (VT.int _) h
  · rename_i t u a x K'
    match hal : as.toList, has with
    | [p, q], has =>
      simp only [List.map_cons, List.map_nil, List.cons.injEq, and_true] at has
      obtain ⟨rfl, rfl⟩ := has
      have hp := hρ p (by simp [hal])
      have hq := hρ q (by simp [hal])
      split at h
      · rename_i e bb ht hu
        split at h
        · rename_i s' e1
          obtain ⟨he, h⟩ := h
          rw [e1] at hq
          have hqv := hq.str_inv
          exact appK_sound hT hS hs ht he (tab_d hT hu) rfl hts hal hp (chx := (bys s').map fun n => [.int .u8 n]) (by rw [hqv]; simp only [lenA, bys, List.length_map, Array.length_toList]; rfl) (by rw [hqv]; simp only [rowA, Ty.z, if_true, bys]; rw [flat_map1, List.map_map]; rfl) (bys_sh _) rfl h
        · exact h.elim
      · rename_i e e' _ ht hu
        split at h
        · rename_i t' he
          obtain ⟨he', h⟩ := h
          split at h
          · rename_i hf
            exact appFlat_sound hT hS hs ht he hu he' hts hal hp hq hf h
          · rcases h with h | h
            · exact appOwn_sound hT hS hs ht he hu he' hts hal hp hq h
            · exact appVal_sound hT hS hs ht he hu he' hts hal hp hq h
        · exact h.elim
      · exact h.elim
  · rename_i t u a x K'
    match hal : as.toList, has with
    | [p, q], has =>
      simp only [List.map_cons, List.map_nil, List.cons.injEq, and_true] at has
      obtain ⟨rfl, rfl⟩ := has
      have hp := hρ p (by simp [hal])
      have hq := hρ q (by simp [hal])
      split at h
      · rename_i e e' ht hu
        split at h
        · rename_i t' id off n he e1
          obtain ⟨he', h⟩ := h
          split at h
          · rename_i hf
            exact copy_sound hT hS hs ht he hu he' hf hts hal hp hq e1 h
          · unfold rowsC at h
            split at h
            · exact copyV_sound hT hS hs ht he hu he' hts hal hp hq e1 h
            · exact moved_sound hT hS hs ht he hu he' hts hal hp hq e1 h
        · exact h.elim
      · exact h.elim
  · exact h.elim
theorem unh_sound (hS : St m σ) (hs : m.H s = []) {a : V} {J : List Obj → Prop} (h : unhT σ a J) : ∃ σ' m', m'.H = m.H ∧ St m' σ' ∧ Kp m σ m' σ' ∧ Fr m m' s ∧ J σ' := by
  unfold unhT at h
  split at h
  · split at h
    · rename_i e
      obtain ⟨l', σ', m', q1, q2, q3, q4, q5, _⟩ := hole_join (s := s) hS hs e h
      exact ⟨σ', m', q1, q2, q3, q4, q5⟩
    · exact ⟨σ, m, rfl, hS, Kp.refl m σ, Fr.refl m s, h⟩
  · exact ⟨σ, m, rfl, hS, Kp.refl m σ, Fr.refl m s, h⟩
theorem opT_sound (hT : TabOk P tab) (hS : St m σ) (hs : m.H s = []) {op : Op} (hρ : ∀ q ∈ op.operands, VT m σ (ρ q) (ρv q)) (h : opT tab σ ρ op K) : Snd P m σ s ρv op K := by
  cases op with
  | move x => exact Snd.same hS (by simp only [opE]) (hρ x (by simp [Op.operands])) h
  | assign x => exact Snd.same hS (by simp only [opE]) (hρ x (by simp [Op.operands])) h
  | pick c a b =>
    unfold opT at h
    simp only at h
    split at h
    · rename_i x e1
      have hc := hρ c (by simp [Op.operands])
      rw [e1] at hc
      have hc' := hc.bool_inv
      cases hx : x with
      | true => exact Snd.same hS (by simp only [opE, hc', hx]) (hρ a (by simp [Op.operands])) (h.t hx)
      | false => exact Snd.same hS (by simp only [opE, hc', hx]) (hρ b (by simp [Op.operands])) (h.f hx)
    · exact h.elim
  | alloc t =>
    unfold opT at h
    simp only at h
    split at h
    · rename_i e ht; exact alloc_sound hT hS hs ht h
    · exact h.elim
  | box t x => exact box_sound hS hs (hρ x (by simp [Op.operands])) h.1 h.2
  | build t ps =>
    unfold opT at h
    simp only at h
    split at h
    · rename_i ty fs b ht
      have h1 := tab_d hT ht
      have hmem : ∀ p ∈ ps.toList, VT m σ (ρ p.2) (ρv p.2) := fun p hp => hρ p.2 (parts_mem hp)
      have hv := parts_vtl hmem
      obtain ⟨cs, as, f1, f2, f3⟩ := fillV_sound (m := m) (qs := ps.toList.map fun p => (p.1, ρv p.2)) h (by simp) (by simpa [List.map_map, Function.comp_def] using hv) (zero_vt m σ ty)
      exact Snd.same hS (by simp only [opE, h1, f1, Option.map_some]) (.agg _ _ f2) f3
    · rename_i ty n el b ht
      split at h
      · rename_i e' ht'
        have h1 := tab_d hT ht
        have h2 := sz_ti (tab_d hT ht')
        have hmem : ∀ p ∈ ps.toList, VT m σ (ρ p.2) (ρv p.2) := fun p hp => hρ p.2 (parts_mem hp)
        have hv := parts_vtl hmem
        obtain ⟨cs, as, f1, f2, f3⟩ := fillV_sound (m := m) (qs := ps.toList.map fun p => (p.1, ρv p.2)) h (by simp) (by simpa [List.map_map, Function.comp_def] using hv) (zero_vt m σ ty)
        exact Snd.same hS (by simp only [opE, h1, h2, f1, Option.map_some]) (.agg _ _ f2) f3
      · exact h.elim
    · exact h.elim
  | buildSlice t n ps =>
    unfold opT at h
    simp only at h
    split at h
    · rename_i e ht
      split at h
      · rename_i t' he
        obtain ⟨hn, hp, h⟩ := h
        have hn := Nat.le_of_ble_eq_true hn
        have hmem : ∀ p ∈ ps.toList, VT m σ (ρ p.2) (ρv p.2) := fun p hp => hρ p.2 (parts_mem hp)
        have hv := parts_vtl hmem
        unfold buildT at h
        split at h
        · rename_i t2
          rcases h with h | h
          · exact buildOwn_sound hT hS hs ht he hn hp hv h
          · exact buildVal_sound hT hS hs ht he hn hp hv h
        · exact buildFlat_sound hT hS hs ht he h.1 hn hp hv h.2
      · exact h.elim
    · exact h.elim
  | load t a =>
    unfold opT at h
    simp only at h
    split at h
    · rename_i e ht; exact load_sound hT hS hs ht (hρ a (by simp [Op.operands])) h
    · exact h.elim
  | store t a x =>
    unfold opT at h
    simp only at h
    split at h
    · rename_i e ht; exact store_sound hT hS hs ht (hρ a (by simp [Op.operands])) (hρ x (by simp [Op.operands])) h
    · exact h.elim
  | nilCheck x =>
    unfold opT at h
    simp only at h
    split at h
    · rename_i id k e1
      have hx := hρ x (by simp [Op.operands])
      rw [e1] at hx
      obtain ⟨o, o1, o2⟩ := hx.pcell_inv h.1
      exact Snd.same hS (av := ρv x) (by simp only [opE, o2]) hx h.2
    · exact h.elim
  | binOp op t x y u => exact opBin_sound hT hS (hρ x (by simp [Op.operands])) (hρ y (by simp [Op.operands])) h
  | unOp op t x =>
    have hx := hρ x (by simp [Op.operands])
    cases op with
    | neg =>
      unfold opT at h
      simp only at h
      split at h
      · rename_i k a e1
        rw [e1] at hx
        have := intT_spec (r := -(a : Int)) h
        refine Snd.same hS (av := .int k (k.wrap (-(a : Int)))) ?_ (VT.int _) this
        simp only [opE, unA, hx.int_inv, Option.map_some, Int.zero_sub]
      · exact h.elim
    | not =>
      unfold opT at h
      simp only at h
      split at h
      · rename_i a e1
        rw [e1] at hx
        exact Snd.same hS (by simp only [opE, unA, hx.bool_inv, Option.map_some]) (VT.bool _) h
      · exact h.elim
    | _ => exact h.elim
  | convert src dst x =>
    unfold opT at h
    simp only at h
    split at h
    · rename_i e k' k b k2 a h1 h2 e1
      obtain ⟨rfl, h⟩ := h
      have hx := hρ x (by simp [Op.operands])
      rw [e1] at hx
      have d1 := tab_d hT h1
      have d2 := tab_d hT h2
      exact Snd.same hS (by simp only [opE, d1, d2, hx.int_inv]) (VT.int _) h
    · rename_i e bb h1 h2
      obtain ⟨he, h⟩ := h
      have hx := hρ x (by simp [Op.operands])
      obtain ⟨xs, h, a, chx, ea, hsl, hlen, hrow, hG, hmost, hall⟩ := Rd_sound hS h hx
      injection ea with ea _
      obtain ⟨el, d, b, by', k1, k2, k3, k4, k5, e', k6, k7⟩ := tab_list hT h1 he
      have hd : d = .int .u8 := by
        have hk := (hT el e' k6).2
        have hm := (hT el e' k6).1
        rw [k2] at hm
        injection hm with hm
        injection hm with hm1 hm2 hm3 hm4
        rw [hm1]
        unfold dOk at hk
        cases e' with
        | mk ty2 d2 b2 =>
          simp only at k7
          subst k7
          cases d2 <;> simp_all
      have hn := sh_nums hall
      have d2 := tab_d hT h2
      refine Snd.same hS (av := .str (strOfNums xs)) ?_ (VT.str _) h
      subst hd
      have hl2 : chx.flatten.length = xs.length := by rw [hall.cells]; simp [Ty.z]
      have hns : ∀ b, a ≠ .str b := fun b hb => by rw [hb] at hsl; simp [isSl] at hsl
      rw [← ea] at hlen hrow hns
      simp only [opE, k1, d2]
      unfold strA
      simp only [k2, hlen]
      simp only [Ty.z] at hrow
      simp only [hrow, hl2, if_true, hn, Option.map_some]
    · exact h.elim
  | makeFunc fn first caps =>
    cases fn with
    | func f =>
      obtain ⟨h1, h⟩ := h
      have hv : VTL m σ (caps.toList.map ρ) (caps.toList.map ρv) := VTL.map fun q hq => hρ q (by simp [Op.operands]; exact .inr (by simpa using hq))
      exact Snd.same hS (by simp only [opE, h1, if_true]) (.fn f _ _ hv) h
    | _ => exact h.elim
  | makeSlice t l c =>
    unfold opT at h
    simp only at h
    split at h
    · rename_i e n mm ht e1 e2
      split at h
      · rename_i t' he
        obtain ⟨rfl, h0, h1, h⟩ := h
        have hl := hρ l (by simp [Op.operands])
        have hc := hρ c (by simp [Op.operands])
        rw [e1] at hl
        rw [e2] at hc
        exact make_sound hT hS hs ht he hl.int_inv hc.int_inv h0 h1 h
      · exact h.elim
    · exact h.elim
  | slice t x lo hi mx => exact slice_sound hT hS hρ h
  | fieldAddr t x f =>
    unfold opT at h
    simp only at h
    split at h
    · rename_i T fs b id k ht e1
      split at h
      · rename_i o n hf
        obtain ⟨hn, hk, h⟩ := h
        have hx := hρ x (by simp [Op.operands])
        rw [e1] at hx
        have d1 := tab_d hT ht
        obtain ⟨ob, o1, o2⟩ := hx.pcell_inv hk
        exact Snd.same hS (by simp only [opE, d1, o2, hf]; rw [if_neg hn]) (.pcell _ _ _ (kind_lt hk) fun _ => ⟨ob, o1, rfl⟩) h
      · exact h.elim
    · exact h.elim
  | indexAddr t x i => exact indexAddr_sound hT hS (hρ x (by simp [Op.operands])) (hρ i (by simp [Op.operands])) h
  | index t x i => exact index_sound hT hS (hρ x (by simp [Op.operands])) (hρ i (by simp [Op.operands])) h
  | extract x i =>
    unfold opT at h
    simp only at h
    split at h
    · rename_i vs e1
      split at h
      · rename_i v hv
        have hx := hρ x (by simp [Op.operands])
        rw [e1] at hx
        generalize hav : ρv x = av at hx
        cases hx with
        | tup _ as hl =>
          obtain ⟨a, a1, a2⟩ := hl.get hv
          exact Snd.same hS (by simp only [opE, hav, a1, Option.map_some]) a2 h
      · exact h.elim
    · exact h.elim
  | call c =>
    obtain ⟨f, as, ts⟩ := c
    cases f with
    | builtin b =>
      have hq : ∀ q ∈ as.toList, VT m σ (ρ q) (ρv q) := fun q hq => hρ q (by simp [Op.operands, Call.operands]; simpa using hq)
      have un : ∀ {b : Builtin}, (unhT σ ((as.toList.map ρ).headD .undef) fun σ => builtinT tab σ b ts.toList (as.toList.map ρ) K) → Snd P m σ s ρv (.call ⟨.builtin b, as, ts⟩) K := fun {b} h => by
        obtain ⟨σ', m', q1, q2, q3, q4, q5⟩ := unh_sound (s := s) hS hs h
        obtain ⟨av, H', k1, v, σ2, m2, k2, k3, k4⟩ := builtin_sound (s := s) hT q2 (by rw [q1]; exact hs) (fun q hq' => (hq q hq').keep q3) q5
        rw [q1] at k1
        exact ⟨av, H', k1, v, σ2, m2, k2, ⟨k3.st, q3.trans k3.kp, q4.trans k3.fr, k3.vt⟩, k4⟩
      cases b
      case append => exact un h
      case copy => exact un h
      all_goals exact builtin_sound hT hS hs hq h
    | _ => exact h.elim
  | _ => exact h.elim
end
end Go.Proofs.YtffiddkignmobaaDoorTv
end
section
/- TV, part R: environments, calls, regions, code over typed values. -/
namespace Go.Proofs.YtffiddkignmobaaDoorTv
open Go.Proofs.YtffiddkignmobaaDoorVe
abbrev EnvV := Nat → V
def EnvV.upd (E : EnvV) (t : Nat) (v : V) : EnvV := fun u => if u = t then v else E u
def EnvV.put (E : EnvV) : Option Nat → V → EnvV
  | some t, v => EnvV.upd E t v
  | none, _ => E
mutual
def constV : Value → V
  | .int k n => .val (.int k) n
  | .bool b => .val .bool b
  | .string s => .val .str s
  | .slice none 0 0 => .nil .unit
  | .pointer none => .nilp
  | .agg cs => .agg (constVs cs.toList)
  | _ => .undef
def constVs : List Value → List V
  | [] => []
  | c :: cs => constV c :: constVs cs
end
def EnvV.ev (E : EnvV) : Operand → V
  | .tmp t => E t
  | .const v => constV v
  | .func f => .fn f []
  | .global _ => .undef
mutual
def V.sh (n : Nat) : V → V
  | .own id off k => .own (n + id) off k
  | .pel id i => .pel (n + id) i
  | .pcell id k => .pcell (n + id) k
  | .mp id => .mp (n + id)
  | .pv cs => .pv (V.shs n cs)
  | .agg cs => .agg (V.shs n cs)
  | .tup cs => .tup (V.shs n cs)
  | .fn f cs => .fn f (V.shs n cs)
  | .val t x => .val t x
  | .nil t => .nil t
  | .nilp => .nilp
  | .undef => .undef
def V.shs (n : Nat) : List V → List V
  | [] => []
  | v :: vs => V.sh n v :: V.shs n vs
end
def Obj.sh (n : Nat) : Obj → Obj
  | .vars vs => .vars (V.shs n vs)
  | .hole t l i v => .hole t l i (v.sh n)
  | o => o
mutual
/-- No data by value but flat ones. -/
def plainV : V → Bool
  | .val t _ => t.flat
  | .pv _ => false
  | .agg cs => plainVs cs
  | .tup cs => plainVs cs
  | .fn _ cs => plainVs cs
  | _ => true
def plainVs : List V → Bool
  | [] => true
  | v :: vs => plainV v && plainVs vs
end
def Obj.plain : Obj → Bool
  | .arr _ _ u => u
  | .frz _ _ => false
  | .vars vs => plainVs vs
  | .hole _ _ _ v => plainV v
  | .mpt t _ => t.flat
  | .gone => true
/-- What a function makes of typed data: the result, and the objects that come with it. -/
def ConT (P : Program) (f : Nat) (args : List V) (rs : V) (σ1 : List Obj) : Prop :=
  Enters P f ∧ ∀ (m : MS) (s : Nat) (avs : List AV), (∀ t j k, m.F t j ≠ some (k + 1)) → m.H s = [] → St m [] → VTL m [] args avs →
    CallV P f avs m.H s fun av H' => ∃ m', m'.H = H' ∧ St m' σ1 ∧ Kp m [] m' σ1 ∧ Fr m m' s ∧ VT m' σ1 rs av
/-- A function that is handed objects (those of σ0), which it may change: the first of σ1. -/
def ConI (P : Program) (f : Nat) (args : List V) (σ0 : List Obj) (rs : V) (σ1 : List Obj) : Prop :=
  Enters P f ∧ ∀ (m : MS) (s : Nat) (avs : List AV), (∀ t j k, m.F t j = some (k + 1) → k < σ0.length) → m.H s = [] → St m σ0 → VTL m σ0 args avs →
    CallV P f avs m.H s fun av H' => ∃ m', m'.H = H' ∧ St m' σ1 ∧ Kp m σ0 m' σ1 ∧ Fr m m' s ∧ VT m' σ1 rs av
mutual
def encV : V → AV
  | .val t x => (encC t x).headD .undef
  | .nil _ => .nil
  | .agg cs => .agg (encVs cs)
  | .tup cs => .tup (encVs cs)
  | _ => .undef
def encVs : List V → List AV
  | [] => []
  | v :: vs => encV v :: encVs vs
end
mutual
def scalV : V → Bool
  | .val t _ => t.flat && !t.isRec
  | .nil _ => true
  | .agg cs => scalVs cs
  | .tup cs => scalVs cs
  | _ => false
def scalVs : List V → Bool
  | [] => true
  | v :: vs => scalV v && scalVs vs
end
/-- A function whose result holds no objects. -/
def ConS (P : Program) (f : Nat) (args : List V) (rs : V) : Prop :=
  scalV rs = true ∧ Enters P f ∧ ∀ (m : MS) (s : Nat) (avs : List AV), (∀ t j k, m.F t j ≠ some (k + 1)) → m.H s = [] → St m [] → VTL m [] args avs →
    CallV P f avs m.H s fun av H' => av = encV rs ∧ H' = m.H
mutual
def V.ren (r : List Nat) : V → V
  | .own id off k => .own (r.getD id 0) off k
  | .pel id i => .pel (r.getD id 0) i
  | .pcell id k => .pcell (r.getD id 0) k
  | .mp id => .mp (r.getD id 0)
  | .pv cs => .pv (V.rens r cs)
  | .agg cs => .agg (V.rens r cs)
  | .tup cs => .tup (V.rens r cs)
  | .fn f cs => .fn f (V.rens r cs)
  | .val t x => .val t x
  | .nil t => .nil t
  | .nilp => .nilp
  | .undef => .undef
def V.rens (r : List Nat) : List V → List V
  | [] => []
  | v :: vs => V.ren r v :: V.rens r vs
end
def Obj.ren (r : List Nat) : Obj → Obj
  | .vars vs => .vars (V.rens r vs)
  | .hole t l i v => .hole t l i (v.ren r)
  | o => o
/-- The objects l of a small state lie in σ at r. -/
def fitO (σ : List Obj) (r : List Nat) : List Nat → List Obj → Prop
  | [], [] => True
  | i :: is, o :: os => σ[i]? = some (o.ren r) ∧ fitO σ r is os
  | _, _ => False
def fitE (E : EnvV) (r : List Nat) : List (Nat × V) → Prop
  | [] => True
  | (t, v) :: l => E t = v.ren r ∧ fitE E r l
mutual
def idsIn (n : Nat) : V → Bool
  | .own id _ _ | .pel id _ | .pcell id _ | .mp id => decide (id < n)
  | .pv cs => idsIns n cs
  | .agg cs => idsIns n cs
  | .tup cs => idsIns n cs
  | .fn _ cs => idsIns n cs
  | _ => true
def idsIns (n : Nat) : List V → Bool
  | [] => true
  | v :: vs => idsIn n v && idsIns n vs
end
def Obj.idsIn (n : Nat) : Obj → Bool
  | .vars vs => idsIns n vs
  | .hole _ _ _ v => Go.Proofs.YtffiddkignmobaaDoorTv.idsIn n v
  | _ => true
/-- The name behind a call: the first k0 are those that were handed over. -/
def backN (r : List Nat) (k0 n i : Nat) : Nat := if i < k0 then r.getD i 0 else n + (i - k0)
def backL (r : List Nat) (k0 n : Nat) (len : Nat) : List Nat := (List.range len).map (backN r k0 n)
def putBack (q : List Nat) : List Nat → List Obj → List Obj → List Obj
  | i :: r, o :: os, σ => putBack q r os (σ.set i (o.ren q))
  | _, _, σ => σ
def notIn (r : List Nat) : V → Bool
  | .own id _ _ => !r.contains id
  | .pel _ _ | .pcell _ _ | .mp _ | .fn _ _ | .pv _ | .tup _ => false
  | _ => true
def argFit1 (σ : List Obj) (v w : V) : Prop := match w with
  | .val (.list t) l => Rd σ t v fun xs => xs = l
  | .val t x => v = .val t x
  | .nil _ => match v with
    | .nil _ => True
    | _ => False
  | .nilp => v = .nilp
  | .fn f [] => v = .fn f []
  | _ => False
def argsFit1 (σ : List Obj) : List V → List V → Prop
  | [], [] => True
  | v :: vs, w :: ws => argFit1 σ v w ∧ argsFit1 σ vs ws
  | _, _ => False
def argFit (σ : List Obj) (v w : V) : Prop := match w with
  | .agg ws => match v with
    | .agg vs => argsFit1 σ vs ws
    | _ => False
  | w => argFit1 σ v w
def argsFit (σ : List Obj) : List V → List V → Prop
  | [], [] => True
  | v :: vs, w :: ws => argFit σ v w ∧ argsFit σ vs ws
  | _, _ => False
def argsFitI (σ : List Obj) (r : List Nat) : List V → List V → Prop
  | [], [] => True
  | v :: vs, w :: ws => ((idsIn r.length w = true ∧ v = w.ren r) ∨ (v.cells.all (notIn r) = true ∧ argFit σ v w)) ∧ argsFitI σ r vs ws
  | _, _ => False
def frzs (σ : List Obj) (vs : List V) : List Obj := vs.foldl (fun σ v => v.cells.foldl frzV σ) σ
mutual
def okW (n : Nat) : V → Bool
  | .val t _ => t.flat && !t.isRec
  | .nil _ => true
  | .own id _ _ | .pel id _ | .pcell id _ => decide (id < n)
  | .nilp => true
  | .agg cs => okWs n cs
  | .tup cs => okWs n cs
  | _ => false
def okWs (n : Nat) : List V → Bool
  | [] => true
  | v :: vs => okW n v && okWs n vs
end
def okO (n : Nat) : Obj → Prop
  | .arr t l true => t.flat = true ∧ (l.length : Int) ≤ most
  | .vars vs => okWs n vs = true
  | _ => False
def okOs (n : Nat) : List Obj → Prop
  | [] => True
  | o :: l => okO n o ∧ okOs n l
section
variable (P : Program) (tab : List (Nat × TE))
def callT (σ : List Obj) (f : Nat) (vs : List V) (K : V → List Obj → Prop) : Prop :=
  ∃ cargs rs σ1, ConT P f cargs rs σ1 ∧ argsFit σ vs cargs ∧ if (plainV rs && σ1.all Obj.plain) = true then K (rs.sh σ.length) (σ ++ σ1.map (Obj.sh σ.length)) else K (rs.sh σ.length) (frzs σ vs ++ σ1.map (Obj.sh σ.length))
def callI (σ : List Obj) (f : Nat) (vs : List V) (K : V → List Obj → Prop) : Prop :=
  ∃ r cargs σ0 rs σ1, ConI P f cargs σ0 rs σ1 ∧ r.Nodup ∧ fitO σ r r σ0 ∧ (σ0.all (Obj.idsIn σ0.length)) = true ∧ ((argsFitI σ r vs cargs ∧ (plainV rs && σ1.all Obj.plain) = true) ∨ (vs = V.rens r cargs ∧ idsIns r.length cargs = true)) ∧
    K (rs.ren (backL r σ0.length σ.length σ1.length)) (putBack (backL r σ0.length σ.length σ1.length) r σ1 σ ++ (σ1.drop σ0.length).map (Obj.ren (backL r σ0.length σ.length σ1.length)))
/-- A call whose result is made anew, in a drawn region. -/
def callW (σ : List Obj) (f : Nat) (vs : List V) (K : V → List Obj → Prop) : Prop := ∃ cargs rs σ1, ConT P f cargs rs σ1 ∧ argsFit σ vs cargs ∧ (plainV rs && σ1.all Obj.plain) = true ∧ okW σ1.length rs = true ∧ okOs σ1.length σ1 ∧ K (rs.sh σ.length) (σ ++ σ1.map (Obj.sh σ.length))
def callS (σ : List Obj) (f : Nat) (vs : List V) (K : V → List Obj → Prop) : Prop := ∃ cargs rs, ConS P f cargs rs ∧ argsFit σ vs cargs ∧ K rs σ
/-- Structs of numbers, compared. -/
def eqVs : List V → List V → (Bool → Prop) → Prop
  | [], [], K => K true
  | .val (.int k) a :: xs, .val (.int k') b :: ys, K => k = k' ∧ eqVs xs ys fun r => K ((a == b) && r)
  | _, _, _ => False
def eqSt (op : BinOp) (t : Nat) (xs ys : List V) (K : V → Prop) : Prop := okEq P t xs.length = true ∧ match op with
  | .eql => eqVs xs ys fun r => K (.b r)
  | .neq => eqVs xs ys fun r => K (.b (!r))
  | _ => False
def zOk : Ty → AV → Bool
  | .bool, .bool b => !b
  | .list _, .nil => true
  | .int k, .int k' n => decide (k = k') && decide (n = 0)
  | _, _ => false
/-- A type of maps from int to τ. -/
def mapB (t : Nat) (τ : Ty) : Bool := match ti P t with
  | some ⟨.map kt e, _, _, _⟩ => (match ti P kt with | some ⟨.int .i64, _, _, _⟩ => true | _ => false) && (match ti P e with | some ⟨d, _, _, [z]⟩ => !d.isAgg && zOk τ z | _ => false)
  | _ => false
def putT (σ : List Obj) (t : Nat) (m k x : V) (K : V → List Obj → Prop) : Prop := match m, k with
  | .mp id, .val (.int .i64) n => match σ[id]? with
    | some (.mpt (.list τ) l) => mapB P t (.list τ) = true ∧ Rd σ τ x fun xs => K .undef ((frzV σ x).set id (.mpt (.list τ) (setL (.list τ) n xs l)))
    | some (.mpt .bool l) => mapB P t .bool = true ∧ match x with
      | .val .bool v => K .undef (σ.set id (.mpt .bool (setL .bool n v l)))
      | _ => False
    | _ => False
  | _, _ => False
def getT (σ : List Obj) (t : Nat) (m k : V) (ok : Bool) (K : V → List Obj → Prop) : Prop := match m, k with
  | .mp id, .val (.int .i64) n => match σ[id]? with
    | some (.mpt τ l) => mapB P t τ = true ∧ match ok with
      | true => K (.tup [.val τ (getL τ l n), .b (hasL τ l n)]) σ
      | false => K (.val τ (getL τ l n)) σ
    | _ => False
  | _, _ => False
/-- Some type is chosen. -/
structure TyS (K : Ty → Prop) : Prop where
  ex : ∃ t, K t
def opT2 (σ : List Obj) (ρ : Operand → V) (op : Op) (K : V → List Obj → Prop) : Prop := match op with
  | .binOp bo t x y u => match ρ x, ρ y with
    | .agg xs, .agg ys => match look tab t with
      | some ⟨_, .st _, _⟩ => eqSt P bo t xs ys fun v => K v σ
      | _ => False
    | _, _ => opT tab σ ρ (.binOp bo t x y u) K
  | .makeMap _ r => match r with
    | none => TyS fun τ => K (.mp σ.length) (σ ++ [.mpt τ []])
    | some _ => False
  | .mapUpdate t m k x => putT P σ t (ρ m) (ρ k) (ρ x) K
  | .insert t m k x => putT P σ t (ρ m) (ρ k) (ρ x) K
  | .lookup t m k ok => getT P σ t (ρ m) (ρ k) ok K
  | op => opT tab σ ρ op K
def stepT (σ : List Obj) (E : EnvV) (o : Oper) (K : V → List Obj → Prop) : Prop := match o.op with
  | .call ⟨.value f, as, _⟩ => match E.ev f with
    | .fn n caps => callT P σ n (as.toList.map E.ev ++ caps) K ∨ callI P σ n (as.toList.map E.ev ++ caps) K
    | _ => False
  | op => opT2 P tab σ E.ev op K
/-- A value, looked at. -/
def forceN (n : Nat) (K : Nat → Prop) : Prop := match n with
  | 0 => K 0 | 1 => K 1 | 2 => K 2 | 3 => K 3 | 4 => K 4 | 5 => K 5 | 6 => K 6 | 7 => K 7 | 8 => K 8 | 9 => K 9 | 10 => K 10 | 11 => K 11 | 12 => K 12 | 13 => K 13 | 14 => K 14 | 15 => K 15
  | n => K n
def force0 (v : V) (K : V → Prop) : Prop := match v with
  | .undef => K .undef
  | .val t x => K (.val t x)
  | .nil t => K (.nil t)
  | .own a b c => forceN a fun a => K (.own a b c)
  | .pel a b => forceN a fun a => K (.pel a b)
  | .pcell a b => forceN a fun a => K (.pcell a b)
  | .mp a => forceN a fun a => K (.mp a)
  | .pv cs => K (.pv cs)
  | .agg cs => K (.agg cs)
  | .tup cs => K (.tup cs)
  | .fn f cs => K (.fn f cs)
  | .nilp => K .nilp
def forceVs0 : List V → (List V → Prop) → Prop
  | [], K => K []
  | c :: cs, K => force0 c fun c => forceVs0 cs fun cs => K (c :: cs)
def force1 (v : V) (K : V → Prop) : Prop := match v with
  | .undef => K .undef
  | .val t x => K (.val t x)
  | .nil t => K (.nil t)
  | .own a b c => forceN a fun a => K (.own a b c)
  | .pel a b => forceN a fun a => K (.pel a b)
  | .pcell a b => forceN a fun a => K (.pcell a b)
  | .mp a => forceN a fun a => K (.mp a)
  | .pv cs => K (.pv cs)
  | .agg cs => forceVs0 cs fun cs => K (.agg cs)
  | .tup cs => forceVs0 cs fun cs => K (.tup cs)
  | .fn f cs => K (.fn f cs)
  | .nilp => K .nilp
def forceVs : List V → (List V → Prop) → Prop
  | [], K => K []
  | c :: cs, K => force1 c fun c => forceVs cs fun cs => K (c :: cs)
def force (v : V) (K : V → Prop) : Prop := match v with
  | .undef => K .undef
  | .val t x => K (.val t x)
  | .nil t => K (.nil t)
  | .own a b c => forceN a fun a => K (.own a b c)
  | .pel a b => forceN a fun a => K (.pel a b)
  | .pcell a b => forceN a fun a => K (.pcell a b)
  | .mp a => forceN a fun a => K (.mp a)
  | .pv cs => K (.pv cs)
  | .agg cs => forceVs cs fun cs => K (.agg cs)
  | .tup cs => forceVs cs fun cs => K (.tup cs)
  | .fn f cs => K (.fn f cs)
  | .nilp => K .nilp
def forceO (o : Obj) (K : Obj → Prop) : Prop := match o with
  | .vars vs => forceVs vs fun vs => K (.vars vs)
  | .arr t l u => K (.arr t l u)
  | .frz t l => K (.frz t l)
  | .hole t l i v => K (.hole t l i v)
  | .mpt t l => K (.mpt t l)
  | .gone => K .gone
def forceL (σ : List Obj) (K : List Obj → Prop) : Prop := match σ with
  | [] => K []
  | o :: l => forceO o fun o => forceL l fun l => K (o :: l)
theorem forceN_eq {n : Nat} {K : Nat → Prop} (h : forceN n K) : K n := by
  unfold forceN at h
  split at h <;> exact h
theorem force0_eq {v : V} {K : V → Prop} (h : force0 v K) : K v := by
  cases v with
  | own a b c => exact forceN_eq (K := fun a => K (.own a b c)) h
  | pel a b => exact forceN_eq (K := fun a => K (.pel a b)) h
  | pcell a b => exact forceN_eq (K := fun a => K (.pcell a b)) h
  | mp a => exact forceN_eq (K := fun a => K (.mp a)) h
  | _ => exact h
theorem forceVs0_eq : ∀ {cs : List V} {K : List V → Prop}, forceVs0 cs K → K cs
  | [], _, h => h
  | c :: cs, K, h => forceVs0_eq (cs := cs) (K := fun l => K (c :: l)) (force0_eq (K := fun c => forceVs0 cs fun cs => K (c :: cs)) h)
theorem force1_eq {v : V} {K : V → Prop} (h : force1 v K) : K v := by
  cases v with
  | own a b c => exact forceN_eq (K := fun a => K (.own a b c)) h
  | pel a b => exact forceN_eq (K := fun a => K (.pel a b)) h
  | pcell a b => exact forceN_eq (K := fun a => K (.pcell a b)) h
  | mp a => exact forceN_eq (K := fun a => K (.mp a)) h
  | agg cs => exact forceVs0_eq (K := fun cs => K (.agg cs)) h
  | tup cs => exact forceVs0_eq (K := fun cs => K (.tup cs)) h
  | _ => exact h
theorem forceVs_eq : ∀ {cs : List V} {K : List V → Prop}, forceVs cs K → K cs
  | [], _, h => h
  | c :: cs, K, h => forceVs_eq (cs := cs) (K := fun l => K (c :: l)) (force1_eq (K := fun c => forceVs cs fun cs => K (c :: cs)) h)
theorem force_eq {v : V} {K : V → Prop} (h : force v K) : K v := by
  cases v with
  | own a b c => exact forceN_eq (K := fun a => K (.own a b c)) h
  | pel a b => exact forceN_eq (K := fun a => K (.pel a b)) h
  | pcell a b => exact forceN_eq (K := fun a => K (.pcell a b)) h
  | mp a => exact forceN_eq (K := fun a => K (.mp a)) h
  | agg cs => exact forceVs_eq (K := fun cs => K (.agg cs)) h
  | tup cs => exact forceVs_eq (K := fun cs => K (.tup cs)) h
  | _ => exact h
theorem forceO_eq {o : Obj} {K : Obj → Prop} (h : forceO o K) : K o := by
  cases o with
  | vars vs => exact forceVs_eq (K := fun vs => K (.vars vs)) h
  | _ => exact h
theorem forceL_eq : ∀ {σ : List Obj} {K : List Obj → Prop}, forceL σ K → K σ
  | [], _, h => h
  | o :: l, K, h => forceL_eq (σ := l) (K := fun l => K (o :: l)) (forceO_eq (K := fun o => forceL l fun l => K (o :: l)) h)
/-- An operation behind a condition. -/
def guardT (ops : Array Oper) (E : EnvV) (o : Oper) (run : EnvV → Prop) (skip : EnvV → Prop) : Prop := match o.guard with
  | none => run E
  | some (j, want) => match (ops[j]?).bind (·.dst) with
    | none => skip E
    | some d => match E d with
      | .val .bool b => match want with
        | true => Br b (run (EnvV.upd E d (.val .bool true))) (skip (EnvV.upd E d (.val .bool false)))
        | false => Br b (skip (EnvV.upd E d (.val .bool true))) (run (EnvV.upd E d (.val .bool false)))
      | .tup [] => skip E
      | _ => False
def seqT (ops : Array Oper) : List Oper → EnvV → List Obj → (EnvV → List Obj → Prop) → Prop
  | [], E, σ, K => K E σ
  | o :: rest, E, σ, K => guardT ops E o (fun E => stepT P tab σ E o fun v σ' => force v fun v => forceL σ' fun σ' => match o.dst with
    | some t => seqT ops rest (EnvV.upd E t v) σ' K
    | none => seqT ops rest E σ' K) fun E => match o.dst with
    | some t => seqT ops rest (EnvV.upd E t (.tup [])) σ K
    | none => seqT ops rest E σ K
/-- Operations that make something out of their operands alone. -/
def makes : Op → Bool
  | .alloc _ | .box .. | .buildSlice .. | .makeSlice .. => true
  | _ => false
/-- Operations that leave the heap as it is. -/
def leaves : Op → Bool
  | .load .. => true
  | .slice .. => true
  | op => pureOp op
/-- Operations that made something, each with the numbers of the objects that certainly lie there. -/
abbrev Al := List (Nat × Nat × Nat)
def seen (A : Nat → Nat) (al : Al) (i : Nat) : Bool := al.all fun k => (A i).testBit k.1
/-- A temporary that still holds what it held at a drawn region's begin, or a copy of such. -/
def cleanT (ops : Array Oper) : Nat → Nat → Bool
  | 0, _ => true
  | i + 1, t => match ops[i]? with
    | some o => if o.dst = some t then (match o.op with
      | .move (.tmp q) => cleanT ops i q
      | .move (.const _) => true
      | _ => false) else cleanT ops i t
    | none => cleanT ops i t
def cleanQ (ops : Array Oper) (i : Nat) : Operand → Bool
  | .tmp t => cleanT ops i t
  | .const _ => true
  | _ => false
mutual
/-- Values without own objects. -/
def closV : V → Bool
  | .val _ _ => true
  | .nil _ => true
  | .agg cs => closVs cs
  | .tup cs => closVs cs
  | _ => false
def closVs : List V → Bool
  | [] => true
  | v :: vs => closV v && closVs vs
end
/-- Two ways, each with what it asks for. -/
inductive OrS (b : Prop) (p : Prop) (c : Prop) (q : Prop) : Prop
  | solo : b → p → OrS b p c q
  | anc : c → q → OrS b p c q
/-- A slice whose elements take cells. -/
def nzK (σ : List Obj) (id : Nat) : Bool := match σ[id]? with
  | some (.arr t _ true) => !(t.z == 0)
  | _ => false
/-- A load out of a variable where an append may come before it; out of a slice where a store into a variable may. -/
def lateT (lt ls : Bool) (σ : List Obj) (E : EnvV) : Op → Bool
  | .load _ q => match E.ev q with
    | .pcell _ _ => !ls
    | .pel id _ => !lt && (!ls || nzK σ id)
    | _ => !lt && !ls
  | .store .. => false
  | _ => true
def stT (es sb : Bool) (σ : List Obj) (E : EnvV) : Op → Bool
  | .store _ a _ => !es || match E.ev a with
    | .pcell _ _ => !sb
    | .pel id _ => sb && nzK σ id
    | _ => false
  | _ => true
/-- A load of what a visible operation made. -/
def visL (A : Nat → Nat) (i : Nat) (al : Al) (E : EnvV) : Op → Bool
  | .load _ q => match E.ev q with
    | .pel id _ => al.any fun k => (A i).testBit k.1 && (Nat.ble k.2.1 id && Nat.ble (id + 1) k.2.2)
    | _ => false
  | _ => false
/-- A slice of what was there when a drawn region began. -/
def slC (cl : Operand → Bool) (E : EnvV) : Op → Bool
  | .slice _ x _ _ _ => cl x && match E.ev x with
    | .val (.list _) _ => true
    | .val .str _ => true
    | .own _ _ _ => true
    | _ => false
  | _ => false
def stepDT (cl : Operand → Bool) (lt ls sb : Bool) (n : Nat) (A : Nat → Nat) (i : Nat) (al : Al) (σ : List Obj) (E : EnvV) (o : Oper) (K : V → List Obj → Al → Prop) : Prop := match o.op with
  | .call ⟨.value f, as, _⟩ => match E.ev f with
    | .fn f caps => OrS (soloB A n i = true) (callT P σ f (as.toList.map E.ev ++ caps) (fun v σ' => K v σ' ((i, 0, 0) :: al)) ∨ callI P σ f (as.toList.map E.ev ++ caps) (fun v σ' => K v σ' ((i, 0, 0) :: al))) (soloB A n i = false) <|
        (seen A al i || (scalVs (as.toList.map E.ev ++ caps) || (as.toList.all cl && closVs (as.toList.map E.ev) && caps.isEmpty))) = true ∧ (callS P σ f (as.toList.map E.ev ++ caps) (fun v σ' => K v σ' al) ∨ callW P σ f (as.toList.map E.ev ++ caps) (fun v σ' => K v σ' ((i, σ.length, σ'.length) :: al)))
    | _ => False
  | op => ((!quiet op && stT (earlyB A i) sb σ E op) || pureOp op || makes op || (lateT lt ls σ E op && seen A al i) || (lateT lt ls σ E op && visL A i al E op) || slC cl E op) = true ∧ opT2 P tab σ E.ev op fun v σ' => K v σ' (if leaves op = true then al else (i, 0, 0) :: al)
def drawT (ops : Array Oper) (A : Nat → Nat) : Nat → Al → List Oper → EnvV → List Obj → (EnvV → List Obj → Prop) → Prop
  | _, _, [], E, σ, K => K E σ
  | i, al, o :: rest, E, σ, K => guardT ops E o (fun E => stepDT P tab (cleanQ ops i) (late ops A i) (lateS ops A i) (stB ops o.op) ops.size A i al σ E o fun v σ' al' => force v fun v => forceL σ' fun σ' => match o.dst with
    | some t => drawT ops A (i + 1) al' rest (EnvV.upd E t v) σ' K
    | none => drawT ops A (i + 1) al' rest E σ' K) fun E => match o.dst with
    | some t => drawT ops A (i + 1) al rest (EnvV.upd E t (.tup [])) σ K
    | none => drawT ops A (i + 1) al rest E σ K
abbrev PostT := Exit → EnvV → List Obj → Prop
def PostT.seq (Q : PostT) (K : EnvV → List Obj → Prop) : PostT
  | .normal, E, σ => K E σ
  | e, E, σ => Q e E σ
def PostT.blk (Q : PostT) (id : Nat) : PostT
  | .exit i, E, σ => if i = id then Q .normal E σ else Q (.exit i) E σ
  | e, E, σ => Q e E σ
def mkE : List (Nat × V) → EnvV
  | [] => fun _ => .undef
  | (t, v) :: l => EnvV.upd (mkE l) t v
/-- A state shows a small one. -/
def frzI (fr : List Nat) (σ : List Obj) : List Obj := (fr.map fun id => V.own id 0 0).foldl frzV σ
/-- A row is put back. -/
def joinK (k0 : Nat) (σ : List Obj) (id : Nat) (σ1 : List Obj) : Prop := match σ[id]? with
  | some (.hole t l i v) => (match v with | .own id2 _ _ => k0 ≤ id2 | _ => True) ∧ joinV σ id t l i v fun _ σ2 => σ2 = σ1
  | _ => False
/-- Changes of the view alone: objects are frozen, rows put back. -/
inductive GhR (k0 : Nat) : List Obj → List Obj → Prop
  | refl (σ : List Obj) : GhR k0 σ σ
  | frz (ids : List Nat) (σ σ' : List Obj) : GhR k0 (frzI ids σ) σ' → GhR k0 σ σ'
  | join (id : Nat) (σ σ1 σ' : List Obj) : joinK k0 σ id σ1 → GhR k0 σ1 σ' → GhR k0 σ σ'
structure Gho (k0 : Nat) (σ : List Obj) where
  σ' : List Obj
  ok : GhR k0 σ σ'
def Gho.frz {k0 : Nat} {σ : List Obj} (ids : List Nat) : Gho k0 σ := ⟨frzI ids σ, .frz ids _ _ (.refl _)⟩
def Gho.fz {k0 : Nat} {σ : List Obj} (ids : List Nat) (g : Gho k0 (frzI ids σ)) : Gho k0 σ := ⟨g.σ', .frz ids _ _ g.ok⟩
def Gho.jn {k0 : Nat} {σ σ1 : List Obj} (id : Nat) (h : joinK k0 σ id σ1) (g : Gho k0 σ1) : Gho k0 σ := ⟨g.σ', .join id _ _ _ h g.ok⟩
@[simp] theorem Gho.frz_eq {k0 : Nat} {σ : List Obj} (ids : List Nat) : (Gho.frz ids : Gho k0 σ).σ' = frzI ids σ := rfl
@[simp] theorem Gho.fz_eq {k0 : Nat} {σ : List Obj} (ids : List Nat) (g : Gho k0 (frzI ids σ)) : (Gho.fz ids g : Gho k0 σ).σ' = g.σ' := rfl
@[simp] theorem Gho.jn_eq {k0 : Nat} {σ σ1 : List Obj} (id : Nat) (h : joinK k0 σ id σ1) (g : Gho k0 σ1) : (Gho.jn id h g).σ' = g.σ' := rfl
def Fits (k0 : Nat) (E : EnvV) (σ : List Obj) (env : List (Nat × V)) (ob : List Obj) : Prop := ∃ (g : Gho k0 σ) (r : List Nat), fitE E r env ∧ fitO g.σ' r r ob ∧ r.Nodup ∧ (env.all fun p => idsIn ob.length p.2) = true ∧ (ob.all (Obj.idsIn ob.length)) = true ∧ r.take k0 = List.range k0
def wpT (k0 : Nat) : Code → EnvV → List Obj → PostT → Prop
  | .skip, E, σ, Q => Q .normal E σ
  | .label _, E, σ, Q => Q .normal E σ
  | .region _ ops draw, E, σ, Q => match draw with
    | true => okAll ops (anc ops) = true ∧ drawT P tab ops (anc ops) 0 [] ops.toList E σ fun E σ => Q .normal E σ
    | false => seqT P tab ops ops.toList E σ fun E σ => Q .normal E σ
  | .seq a b, E, σ, Q => wpT k0 a E σ (PostT.seq Q fun E σ => wpT k0 b E σ Q)
  | .cond c t f, E, σ, Q => match E.ev c with
    | .val .bool b => Br b (wpT k0 t E σ Q) (wpT k0 f E σ Q)
    | _ => False
  | .block id c, E, σ, Q => wpT k0 c E σ (PostT.blk Q id)
  | .loop c, E, σ, Q => ∃ (α : Type) (inv : α → Prop) (n : α → Nat) (env : α → List (Nat × V)) (ob : α → List Obj), (∃ a, Fits k0 E σ (env a) (ob a) ∧ inv a) ∧
      ∀ a, inv a → wpT k0 c (mkE (env a)) (ob a) (PostT.seq Q fun E' σ' => ∃ a', Fits k0 E' σ' (env a') (ob a') ∧ inv a' ∧ n a' < n a)
  | .exit id, E, σ, Q => Q (.exit id) E σ
  | .ret, E, σ, Q => Q .ret E σ
  | _, _, _, _ => False
end
end Go.Proofs.YtffiddkignmobaaDoorTv
end
section
/- TV, part S: calls of functions are sound. -/
namespace Go.Proofs.YtffiddkignmobaaDoorTv
open Go.Proofs.YtffiddkignmobaaDoorVe
theorem shs_map (n : Nat) : ∀ l, V.shs n l = l.map (V.sh n)
  | [] => by simp [V.shs]
  | v :: l => by simp [V.shs, shs_map n l]
theorem kind_sh {σ σ1 : List Obj} {i : Nat} : kind (σ ++ σ1.map (Obj.sh σ.length)) (σ.length + i) = kind σ1 i := by
  unfold kind
  rw [List.getElem?_append_right (by omega), Nat.add_sub_cancel_left, List.getElem?_map]
  cases σ1[i]? with
  | none => rfl
  | some o => cases o <;> rfl
theorem kind_old {σ σ1 : List Obj} {i : Nat} (h : i < σ.length) : kind (σ ++ σ1) i = kind σ i := by
  unfold kind
  rw [List.getElem?_append_left h]
def joinM (m m' : MS) (s n : Nat) : MS := ⟨fun t j => if t = s then (m'.F t j).map (fun k => if k = 0 then 0 else k + n) else m.F t j, m'.H, fun i => if i < n then m.ι i else m'.ι (i - n)⟩
section
variable {m m' : MS} {σ σ1 : List Obj} {s : Nat}
theorem join_fz (hF0 : ∀ t j, t ≠ s → m'.F t j = some 0 → m.F t j = some 0) : ∀ t j, m'.F t j = some 0 → (joinM m m' s σ.length).F t j = some 0 := fun t j h => by
  simp only [joinM]
  split
  · simp [h]
  · rename_i ht; exact hF0 t j ht h
theorem join_keep (hF0 : ∀ t j, t ≠ s → m'.F t j = some 0 → m.F t j = some 0) : Keep m'.fz m'.H (joinM m m' s σ.length).fz (joinM m m' s σ.length).H := fun t j h => ⟨join_fz hF0 t j h, rfl⟩
theorem join_at (i : Nat) : (joinM m m' s σ.length).at (σ.length + i) = m'.at i := by
  have : ¬ (σ.length + i < σ.length) := by omega
  simp [joinM, MS.at, this]
theorem join_ι (i : Nat) : (joinM m m' s σ.length).ι (σ.length + i) = m'.ι i := by
  have : ¬ (σ.length + i < σ.length) := by omega
  simp [joinM, this]
mutual
theorem VT.shift (hF0 : ∀ t j, t ≠ s → m'.F t j = some 0 → m.F t j = some 0) : ∀ {v : V} {a : AV}, VT m' σ1 v a → VT (joinM m m' s σ.length) (σ ++ σ1.map (Obj.sh σ.length)) (v.sh σ.length) a
  | _, _, .undef a => by simp only [V.sh]; exact .undef a
  | _, _, .val t x a h => by simp only [V.sh]; exact .val t x a (h.keep (join_keep hF0))
  | _, _, .nil t => by simp only [V.sh]; exact .nil t
  | _, _, .own id off n a h1 h2 => by
    simp only [V.sh]
    exact .own _ _ _ _ (by simp; omega) fun t ht => by
      rw [kind_sh] at ht
      obtain ⟨o, k1, k2⟩ := h2 t ht
      exact ⟨o, by rw [join_at]; exact k1, by rw [join_ι]; exact k2⟩
  | _, _, .pel id i a h1 h2 => by
    simp only [V.sh]
    exact .pel _ _ _ (by simp; omega) fun t ht => by
      rw [kind_sh] at ht
      obtain ⟨o, k1, k2⟩ := h2 t ht
      exact ⟨o, by rw [join_at]; exact k1, by rw [join_ι]; exact k2⟩
  | _, _, .pcell id k a h1 h2 => by
    simp only [V.sh]
    exact .pcell _ _ _ (by simp; omega) fun ht => by
      rw [kind_sh] at ht
      obtain ⟨o, k1, k2⟩ := h2 ht
      exact ⟨o, by rw [join_at]; exact k1, by rw [join_ι]; exact k2⟩
  | _, _, .mp id a h1 h2 => by
    simp only [V.sh]
    exact .mp _ _ (by simp; omega) fun ht => by
      rw [kind_sh] at ht
      obtain ⟨o, k1, k2⟩ := h2 ht
      exact ⟨o, by rw [join_at]; exact k1, by rw [join_ι]; exact k2⟩
  | _, _, .pv cs a as h1 h2 h3 => by
    simp only [V.sh]
    exact .pv _ _ as (by rw [shs_map, List.length_map]; exact h1) (fun t j g off e => join_fz hF0 t j (h2 t j g off e)) (VTL.shift hF0 h3)
  | _, _, .agg cs as h => by simp only [V.sh]; exact .agg _ _ (VTL.shift hF0 h)
  | _, _, .tup cs as h => by simp only [V.sh]; exact .tup _ _ (VTL.shift hF0 h)
  | _, _, .fn f cs as h => by simp only [V.sh]; exact .fn f _ _ (VTL.shift hF0 h)
  | _, _, .nilp => by simp only [V.sh]; exact .nilp
theorem VTL.shift (hF0 : ∀ t j, t ≠ s → m'.F t j = some 0 → m.F t j = some 0) : ∀ {v : List V} {a : List AV}, VTL m' σ1 v a → VTL (joinM m m' s σ.length) (σ ++ σ1.map (Obj.sh σ.length)) (V.shs σ.length v) a
  | _, _, .nil => by simp only [V.shs]; exact .nil
  | _, _, .cons v a vs as h1 h2 => by simp only [V.shs]; exact .cons _ _ _ _ (VT.shift hF0 h1) (VTL.shift hF0 h2)
end
theorem join_step (hS : St m σ) (hs : m.H s = []) (hS1 : St m' σ1) (hH : ∀ t j, t ≠ s → m'.H.ob t j = m.H.ob t j) (hF0 : ∀ t j, t ≠ s → m'.F t j = some 0 → m.F t j = some 0) (hFo : ∀ t j k, t ≠ s → m'.F t j ≠ some (k + 1)) :
    St (joinM m m' s σ.length) (σ ++ σ1.map (Obj.sh σ.length)) ∧ Kp m σ (joinM m m' s σ.length) (σ ++ σ1.map (Obj.sh σ.length)) ∧ Fr m (joinM m m' s σ.length) s := by
  have hns : ∀ t j k, m.F t j = some k → t ≠ s := fun t j k h e => by
    obtain ⟨o, ho⟩ := hS.dom t j k h
    rw [e] at ho; simp [Heap.ob, hs] at ho
  have hFe : ∀ t j, t ≠ s → (joinM m m' s σ.length).F t j = m.F t j := fun t j ht => by simp [joinM, ht]
  have hat : ∀ id κ, kind σ id = some κ → (joinM m m' s σ.length).ι id = m.ι id ∧ (joinM m m' s σ.length).at id = m.at id := fun id κ hk => by
    have hid := kind_lt hk
    obtain ⟨hF, _⟩ := OT.owner hS hk
    have hne : (m.ι id).1 ≠ s := by rcases hF with h | h <;> exact hns _ _ _ h
    refine ⟨by simp [joinM, hid], ?_⟩
    simp only [MS.at, joinM, hid, if_true]
    exact hH _ _ hne
  have kp : Kp m σ (joinM m m' s σ.length) (σ ++ σ1.map (Obj.sh σ.length)) := by
    refine ⟨fun t j h => ?_, by simp, fun id κ hid hk => ?_⟩
    · have ht := hns _ _ _ h
      exact ⟨(hFe t j ht).trans h, hH t j ht⟩
    · rw [kind_old hid] at hk
      obtain ⟨h1, h2⟩ := hat id κ hk
      exact ⟨hk, h1, fun o ho => ⟨o, by rw [h2]; exact ho, rfl⟩⟩
  refine ⟨⟨fun id o ho => ?_, fun t j k hk => ?_⟩, kp, fun t j ht _ => ⟨hH t j ht, hFe t j ht⟩⟩
  · by_cases hid : id < σ.length
    · rw [List.getElem?_append_left hid] at ho
      refine OT.keep kp (by simp [joinM, hid]) (fun t j h => ?_) (hS.obj id o ho)
      have ht := hns _ _ _ h
      exact ⟨(hFe t j ht).trans h, hH t j ht⟩
    · have e : id = σ.length + (id - σ.length) := by omega
      generalize id - σ.length = i at e
      subst e
      rw [List.getElem?_append_right (by omega), Nat.add_sub_cancel_left, List.getElem?_map] at ho
      cases h1 : σ1[i]? with
      | none => rw [h1] at ho; cases ho
      | some o1 =>
        rw [h1] at ho
        simp only [Option.map_some, Option.some.injEq] at ho
        have h2 := hS1.obj i o1 h1
        have hown : ∀ t j, m'.F t j = some (i + 1) → t = s ∧ (joinM m m' s σ.length).F t j = some (σ.length + i + 1) := fun t j h => by
          have ht : t = s := Classical.byContradiction fun c => hFo t j i c h
          refine ⟨ht, ?_⟩
          simp only [joinM, ht, if_true]
          rw [← ht, h]
          simp; omega
        subst ho
        cases o1 with
        | gone => trivial
        | mpt t l =>
          obtain ⟨g, as, k1, k2, k3⟩ := h2
          exact ⟨g, as, by rw [join_at]; exact k1, by rw [join_ι]; exact (hown _ _ k2).2, k3.keep (join_keep hF0)⟩
        | hole t l j v =>
          obtain ⟨g, parts, c, k1, k2⟩ := h2
          exact ⟨g, parts, c, k1.move (join_ι i) fun t j h => ⟨(hown t j h).2, rfl⟩, VT.shift hF0 k2⟩
        | vars vs =>
          obtain ⟨g, z, as, k1, k2, k3⟩ := h2
          exact ⟨g, z, as, by rw [join_at]; exact k1, by rw [join_ι]; exact (hown _ _ k2).2, VTL.shift hF0 k3⟩
        | frz t l =>
          obtain ⟨g, ch, k1, k2, k3, k4⟩ := h2
          exact ⟨g, ch, by rw [join_at]; exact k1, by rw [join_ι]; exact join_fz hF0 _ _ k2, k3, k4.mono fun x c _ _ k => k.keep (join_keep hF0)⟩
        | arr t l u =>
          cases u with
          | false =>
            obtain ⟨g, ch, k1, k2, k3, k4⟩ := h2
            exact ⟨g, ch, by rw [join_at]; exact k1, by rw [join_ι]; exact (hown _ _ k2).2, k3, k4.mono fun x c _ _ k => k.keep (join_keep hF0)⟩
          | true =>
            obtain ⟨o, O, k1, k2, k3, k4⟩ := h2
            exact ⟨o, O, by rw [join_at]; exact k1, by rw [join_ι]; exact k2, k3, fun p hp => (hown _ _ (k4 p hp)).2⟩
  · simp only [joinM] at hk ⊢
    split at hk
    · rename_i ht
      cases h1 : m'.F t j with
      | none => rw [h1] at hk; cases hk
      | some k' => exact hS1.dom t j k' h1
    · rename_i ht
      obtain ⟨o, ho⟩ := hS.dom t j k hk
      exact ⟨o, by rw [hH t j ht]; exact ho⟩
/-- What is not by value does not look at what is frozen. -/
theorem Sh.free {G G' : Nat → Nat → Prop} {H H' : Heap} {t : Ty} {x : t.den} {cs : List AV} (hf : t.flat = true) (h : Sh G H t x cs) : Sh G' H' t x cs := by
  rw [h.enc hf]; exact enc_sh _ _ x hf
theorem Me.free {G G' : Nat → Nat → Prop} {H H' : Heap} {t : Ty} (hf : t.flat = true) : ∀ {l : List (Int × t.den)} {cs : List AV}, Me G H t l cs → Me G' H' t l cs
  | [], _, k => k
  | _ :: _, _, ⟨a, cs', e, h1, h2, h3⟩ => ⟨a, cs', e, h1.free hf, h2, Me.free hf h3⟩
mutual
theorem VT.plain {m2 : MS} (hH : m2.H = m.H) (hι : m2.ι = m.ι) : ∀ {v : V} {a : AV}, VT m σ v a → plainV v = true → VT m2 σ v a
  | _, _, .undef a, _ => .undef a
  | _, _, .val t x a h, hp => .val t x a (h.free (by simpa [plainV] using hp))
  | _, _, .nil t, _ => .nil t
  | _, _, .own id off n a h1 h2, _ => .own id off n a h1 fun t ht => by
    obtain ⟨o, k1, k2⟩ := h2 t ht
    exact ⟨o, by unfold MS.at; rw [hH, hι]; exact k1, by rw [hι]; exact k2⟩
  | _, _, .pel id i a h1 h2, _ => .pel id i a h1 fun t ht => by
    obtain ⟨o, k1, k2⟩ := h2 t ht
    exact ⟨o, by unfold MS.at; rw [hH, hι]; exact k1, by rw [hι]; exact k2⟩
  | _, _, .pcell id k a h1 h2, _ => .pcell id k a h1 fun ht => by
    obtain ⟨o, k1, k2⟩ := h2 ht
    exact ⟨o, by unfold MS.at; rw [hH, hι]; exact k1, by rw [hι]; exact k2⟩
  | _, _, .mp id a h1 h2, _ => .mp id a h1 fun ht => by
    obtain ⟨o, k1, k2⟩ := h2 ht
    exact ⟨o, by unfold MS.at; rw [hH, hι]; exact k1, by rw [hι]; exact k2⟩
  | _, _, .pv cs a as _ _ _, hp => by simp [plainV] at hp
  | _, _, .agg cs as h, hp => .agg cs as (VTL.plain hH hι h (by simpa [plainV] using hp))
  | _, _, .tup cs as h, hp => .tup cs as (VTL.plain hH hι h (by simpa [plainV] using hp))
  | _, _, .fn f cs as h, hp => .fn f cs as (VTL.plain hH hι h (by simpa [plainV] using hp))
  | _, _, .nilp, _ => .nilp
theorem VTL.plain {m2 : MS} (hH : m2.H = m.H) (hι : m2.ι = m.ι) : ∀ {v : List V} {a : List AV}, VTL m σ v a → plainVs v = true → VTL m2 σ v a
  | _, _, .nil, _ => .nil
  | _, _, .cons v a vs as h1 h2, hp => by
    simp only [plainVs, Bool.and_eq_true] at hp
    exact .cons v a vs as (VT.plain hH hι h1 hp.1) (VTL.plain hH hι h2 hp.2)
end
theorem OT.plain {m2 : MS} (hH : m2.H = m.H) (hι : m2.ι = m.ι) (hF : ∀ t j k, m.F t j = some (k + 1) → m2.F t j = some (k + 1)) {id : Nat} {o : Obj} (hp : o.plain = true) (h : OT m σ id o) : OT m2 σ id o := by
  have hat : m2.at id = m.at id := by unfold MS.at; rw [hH, hι]
  cases o with
  | gone => trivial
  | mpt t l =>
    obtain ⟨g, as, k1, k2, k3⟩ := h
    exact ⟨g, as, by rw [hat]; exact k1, by rw [hι]; exact hF _ _ _ k2, k3.free (by simpa [Obj.plain] using hp)⟩
  | frz t l => simp [Obj.plain] at hp
  | hole t l i v =>
    obtain ⟨g, parts, c, k1, k2⟩ := h
    exact ⟨g, parts, c, k1.move (by rw [hι]) fun t j h => ⟨hF t j _ h, by rw [hH]⟩, VT.plain hH hι k2 (by simpa [Obj.plain] using hp)⟩
  | vars vs =>
    obtain ⟨g, z, as, k1, k2, k3⟩ := h
    exact ⟨g, z, as, by rw [hat]; exact k1, by rw [hι]; exact hF _ _ _ k2, VTL.plain hH hι k3 (by simpa [Obj.plain] using hp)⟩
  | arr t l u =>
    have hu : u = true := by simpa [Obj.plain] using hp
    subst hu
    obtain ⟨o, O, k1, k2, k3, k4⟩ := h
    exact ⟨o, O, by rw [hat]; exact k1, by rw [hι, hH]; exact k2, k3, fun p hp => hF _ _ _ (k4 p hp)⟩
/-- Arguments that are shown, by value, for the function that is called. -/
theorem argFit1_sound (hS : St m σ) {m2 : MS} (hH : m2.H = m.H) (hF : ∀ t j k, m.F t j = some k → m2.F t j = some 0) {v w : V} {a : AV} (h : argFit1 σ v w) (hv : VT m σ v a) : VT m2 [] w a := by
  cases w with
  | val t x =>
    have key : ∀ {t : Ty} {x : t.den}, VT m σ (.val t x) a → VT m2 [] (.val t x) a := fun hv => by
      cases hv with
      | val _ _ _ hs => exact .val _ _ _ (hs.keep fun t j g => ⟨hF t j 0 g, by rw [hH]⟩)
    cases t with
    | list t =>
      obtain ⟨xs, rfl, hs⟩ := Rd_sound hS h hv
      exact .val (.list t) xs a (hs.keep fun t j g => ⟨by obtain ⟨k, g⟩ := g; exact hF t j k g, by rw [hH]⟩)
    | _ => simp only [argFit1] at h; subst h; exact key hv
  | nil t =>
    cases v <;> simp only [argFit1] at h
    cases hv
    exact .nil t
  | nilp => simp only [argFit1] at h; subst h; cases hv; exact .nilp
  | fn f cs =>
    cases cs with
    | nil =>
      simp only [argFit1] at h
      subst h
      cases hv with
      | fn _ _ as hl => cases hl; exact .fn f [] [] .nil
    | cons c cs => simp only [argFit1] at h
  | _ => simp only [argFit1] at h
theorem argsFit1_sound (hS : St m σ) {m2 : MS} (hH : m2.H = m.H) (hF : ∀ t j k, m.F t j = some k → m2.F t j = some 0) : ∀ {vs ws : List V} {as : List AV}, argsFit1 σ vs ws → VTL m σ vs as → VTL m2 [] ws as
  | [], [], _, _, .nil => .nil
  | v :: vs, w :: ws, _, h, .cons _ a _ as h1 h2 => .cons _ _ _ _ (argFit1_sound hS hH hF h.1 h1) (argsFit1_sound hS hH hF h.2 h2)
  | [], _ :: _, _, h, _ => h.elim
  | _ :: _, [], _, h, _ => h.elim
theorem argFit_sound (hS : St m σ) {m2 : MS} (hH : m2.H = m.H) (hF : ∀ t j k, m.F t j = some k → m2.F t j = some 0) {v w : V} {a : AV} (h : argFit σ v w) (hv : VT m σ v a) : VT m2 [] w a := by
  cases w with
  | agg ws =>
    cases v <;> simp only [argFit] at h
    cases hv with
    | agg _ as hl => exact .agg _ _ (argsFit1_sound hS hH hF h hl)
  | _ => exact argFit1_sound hS hH hF h hv
theorem argsFit_sound (hS : St m σ) {m2 : MS} (hH : m2.H = m.H) (hF : ∀ t j k, m.F t j = some k → m2.F t j = some 0) : ∀ {vs ws : List V} {as : List AV}, argsFit σ vs ws → VTL m σ vs as → VTL m2 [] ws as
  | [], [], _, _, .nil => .nil
  | v :: vs, w :: ws, _, h, .cons _ a _ as h1 h2 => .cons _ _ _ _ (argFit_sound hS hH hF h.1 h1) (argsFit_sound hS hH hF h.2 h2)
  | [], _ :: _, _, h, _ => h.elim
  | _ :: _, [], _, h, _ => h.elim
end
end Go.Proofs.YtffiddkignmobaaDoorTv
end
section
/- TV, part T: calls are sound. -/
namespace Go.Proofs.YtffiddkignmobaaDoorTv
open Go.Proofs.YtffiddkignmobaaDoorVe
/-- σ' is σ with some slices frozen. -/
def Frz (σ σ' : List Obj) : Prop := σ'.length = σ.length ∧ ∀ id : Nat, σ'[id]? = σ[id]? ∨ ∃ t l u, σ[id]? = some (Obj.arr t l u) ∧ σ'[id]? = some (Obj.frz t l)
theorem Frz.refl (σ : List Obj) : Frz σ σ := ⟨rfl, fun _ => .inl rfl⟩
theorem Frz.trans {a b c : List Obj} (h : Frz a b) (k : Frz b c) : Frz a c := ⟨k.1.trans h.1, fun id => by
  rcases k.2 id with e | ⟨t, l, u, e1, e2⟩
  · rw [e]; exact h.2 id
  · rcases h.2 id with e | ⟨t', l', u', f1, f2⟩
    · exact .inr ⟨t, l, u, by rw [← e]; exact e1, e2⟩
    · rw [f2] at e1; cases e1⟩
theorem frzV_frz (σ : List Obj) (v : V) : Frz σ (frzV σ v) := by
  refine ⟨frzV_length σ v, fun id => ?_⟩
  cases v <;> simp only [frzV, true_or]
  rename_i i off n
  split
  · rename_i t l u e
    by_cases hi : id = i
    · subst hi
      right
      have : id < σ.length := (List.getElem?_eq_some_iff.1 e).1
      exact ⟨t, l, u, e, by simp [this]⟩
    · left; rw [List.getElem?_set_ne (fun c => hi c.symm)]
  · exact .inl rfl
def notArr (σ : List Obj) : V → Prop
  | .own id _ _ => ∀ t l u, σ[id]? ≠ some (.arr t l u)
  | _ => True
theorem frzV_not (σ : List Obj) (v : V) : notArr (frzV σ v) v := by
  cases v <;> simp only [notArr]
  rename_i id off n
  intro t l u h
  simp only [frzV] at h
  split at h
  · rename_i t' l' u' e
    have : id < σ.length := (List.getElem?_eq_some_iff.1 e).1
    simp [this] at h
  · rename_i hn; exact hn t l u h
theorem Frz.not {σ σ' : List Obj} (h : Frz σ σ') {v : V} (hn : notArr σ v) : notArr σ' v := by
  cases v <;> simp only [notArr] at hn ⊢
  rename_i id off n
  intro t l u e
  rcases h.2 id with e2 | ⟨t', l', u', e1, e2⟩
  · rw [e2] at e; exact hn t l u e
  · rw [e2] at e; cases e
theorem Frz.rd {σ σ' : List Obj} (h : Frz σ σ') {t : Ty} {v : V} {k : List t.den → Prop} (hr : Rd σ t v k) : Rd σ' t v k := by
  cases v <;> simp only [Rd] at hr ⊢ <;> try exact hr
  rename_i id off n
  rcases h.2 id with e | ⟨t', l', u', e1, e2⟩
  · rw [e]; exact hr
  · rw [e1] at hr
    simp only at hr
    obtain ⟨xs, u, e3, h1, h2⟩ := hr
    rw [e2]
    simp only
    injection e3 with e3
    injection e3 with e4 e5 e6
    subst e4
    have := eq_of_heq e5
    subst this
    exact ⟨_, rfl, h1, h2⟩
section
variable {P : Program} {m : MS} {σ : List Obj} {s : Nat}
theorem Rd_fz (hS : St m σ) {t : Ty} {v : V} {a : AV} {k : List t.den → Prop} (h : Rd σ t v k) (hn : notArr σ v) (hv : VT m σ v a) : ∃ xs, k xs ∧ Sh m.fz m.H (.list t) xs [a] := by
  unfold Rd at h
  split at h
  · obtain ⟨xs, e, hk⟩ := h
    rw [e] at hv
    cases hv with
    | val _ _ _ hs => exact ⟨xs, hk, hs⟩
  · cases hv
    exact ⟨[], h, .nil, [], rfl, rfl, rfl, rfl, trivial, by simp [most], trivial⟩
  · rename_i id off n
    split at h
    · obtain ⟨xs, u, e, _⟩ := h
      exact (hn _ _ _ e).elim
    · obtain ⟨xs, e, hn, hk⟩ := h
      obtain ⟨g, ch, h1, h2, h3, h4⟩ := (hS.obj id _ e).frz
      obtain ⟨o, k1, rfl⟩ := hv.own_inv (kind_frz e)
      rw [h1] at k1
      injection k1 with k1
      subst k1
      exact ⟨_, hk, sub_sh h1 h2 hn h3 h4⟩
    · exact h.elim
  · exact h.elim
theorem frzV_step (hS : St m σ) (hs : m.H s = []) (v : V) : ∃ m', m'.H = m.H ∧ St m' (frzV σ v) ∧ Kp m σ m' (frzV σ v) ∧ Fr m m' s := by
  have same : frzV σ v = σ → ∃ m', m'.H = m.H ∧ St m' (frzV σ v) ∧ Kp m σ m' (frzV σ v) ∧ Fr m m' s := fun e => ⟨m, rfl, by rw [e]; exact hS, by rw [e]; exact Kp.refl m σ, Fr.refl m s⟩
  cases v with
  | own id off n =>
    cases e : σ[id]? with
    | none => exact same (by simp only [frzV, e])
    | some o =>
      cases o with
      | arr t l u =>
        have : frzV σ (.own id off n) = σ.set id (.frz t l) := by simp only [frzV, e]
        rw [this]
        exact freeze_step hS hs e
      | _ => exact same (by simp only [frzV, e])
  | _ => exact same rfl
theorem frzL_step : ∀ (l : List V) {m : MS} {σ : List Obj}, St m σ → m.H s = [] → ∃ m', m'.H = m.H ∧ St m' (l.foldl frzV σ) ∧ Kp m σ m' (l.foldl frzV σ) ∧ Fr m m' s
  | [], m, σ, hS, _ => ⟨m, rfl, hS, Kp.refl m σ, Fr.refl m s⟩
  | v :: l, m, σ, hS, hs => by
    obtain ⟨m1, e1, h1, k1, f1⟩ := frzV_step (s := s) hS hs v
    obtain ⟨m2, e2, h2, k2, f2⟩ := frzL_step l h1 (by rw [e1]; exact hs)
    exact ⟨m2, e2.trans e1, h2, k1.trans k2, f1.trans f2⟩
theorem frzL_frz : ∀ (l : List V) (σ : List Obj), Frz σ (l.foldl frzV σ)
  | [], σ => Frz.refl σ
  | v :: l, σ => (frzV_frz σ v).trans (frzL_frz l _)
theorem frzL_not : ∀ (l : List V) (σ : List Obj), ∀ v ∈ l, notArr (l.foldl frzV σ) v
  | v :: l, σ, w, h => by
    rcases List.mem_cons.1 h with rfl | h
    · exact (frzL_frz l _).not (frzV_not σ w)
    · exact frzL_not l _ w h
theorem frzs_step : ∀ (vs : List V) {m : MS} {σ : List Obj}, St m σ → m.H s = [] → ∃ m', m'.H = m.H ∧ St m' (frzs σ vs) ∧ Kp m σ m' (frzs σ vs) ∧ Fr m m' s
  | [], m, σ, hS, _ => ⟨m, rfl, hS, Kp.refl m σ, Fr.refl m s⟩
  | v :: l, m, σ, hS, hs => by
    obtain ⟨m1, e1, h1, k1, f1⟩ := frzL_step (s := s) v.cells hS hs
    obtain ⟨m2, e2, h2, k2, f2⟩ := frzs_step l h1 (by rw [e1]; exact hs)
    exact ⟨m2, e2.trans e1, h2, k1.trans k2, f1.trans f2⟩
theorem frzs_frz : ∀ (l : List V) (σ : List Obj), Frz σ (frzs σ l)
  | [], σ => Frz.refl σ
  | v :: l, σ => (frzL_frz v.cells σ).trans (frzs_frz l _)
theorem frzs_not : ∀ (l : List V) (σ : List Obj), ∀ v ∈ l, ∀ c ∈ v.cells, notArr (frzs σ l) c
  | v :: l, σ, w, h, c, hc => by
    rcases List.mem_cons.1 h with rfl | h
    · exact (frzs_frz l _).not (frzL_not w.cells σ c hc)
    · exact frzs_not l _ w h c hc
theorem argFit1_frz {σ' : List Obj} (hf : Frz σ σ') {v w : V} (h : argFit1 σ v w) : argFit1 σ' v w := by
  cases w with
  | val t x =>
    cases t with
    | list t => exact hf.rd h
    | _ => exact h
  | fn f cs => cases cs <;> exact h
  | _ => exact h
theorem argFit1_fz (hS : St m σ) {m2 : MS} (hH : m2.H = m.H) (hF : ∀ t j, m.F t j = some 0 → m2.F t j = some 0) {v w : V} {a : AV} (h : argFit1 σ v w) (hn : notArr σ v) (hv : VT m σ v a) : VT m2 [] w a := by
  cases w with
  | val t x =>
    have key : ∀ {t : Ty} {x : t.den}, VT m σ (.val t x) a → VT m2 [] (.val t x) a := fun hv => by
      cases hv with
      | val _ _ _ hs => exact .val _ _ _ (hs.keep fun t j g => ⟨hF t j g, by rw [hH]⟩)
    cases t with
    | list t =>
      obtain ⟨xs, rfl, hs⟩ := Rd_fz hS h hn hv
      exact .val (.list t) xs a (hs.keep fun t j g => ⟨hF t j g, by rw [hH]⟩)
    | _ => simp only [argFit1] at h; subst h; exact key hv
  | nil t =>
    cases v <;> simp only [argFit1] at h
    cases hv
    exact .nil t
  | nilp => simp only [argFit1] at h; subst h; cases hv; exact .nilp
  | fn f cs =>
    cases cs with
    | nil =>
      simp only [argFit1] at h
      subst h
      cases hv with
      | fn _ _ as hl => cases hl; exact .fn f [] [] .nil
    | cons c cs => simp only [argFit1] at h
  | _ => simp only [argFit1] at h
theorem argsFit1_fz (hS : St m σ) {σ0 : List Obj} (hf : Frz σ0 σ) {m2 : MS} (hH : m2.H = m.H) (hF : ∀ t j, m.F t j = some 0 → m2.F t j = some 0) : ∀ {vs ws : List V} {as : List AV}, argsFit1 σ0 vs ws → (∀ v ∈ vs, notArr σ v) → VTL m σ vs as → VTL m2 [] ws as
  | [], [], _, _, _, .nil => .nil
  | v :: vs, w :: ws, _, h, hn, .cons _ a _ as h1 h2 => .cons _ _ _ _ (argFit1_fz hS hH hF (argFit1_frz hf h.1) (hn v (by simp)) h1) (argsFit1_fz hS hf hH hF h.2 (fun x hx => hn x (by simp [hx])) h2)
  | [], _ :: _, _, h, _, _ => h.elim
  | _ :: _, [], _, h, _, _ => h.elim
theorem argsFit_fz (hS : St m σ) {σ0 : List Obj} (hf : Frz σ0 σ) {m2 : MS} (hH : m2.H = m.H) (hF : ∀ t j, m.F t j = some 0 → m2.F t j = some 0) : ∀ {vs ws : List V} {as : List AV}, argsFit σ0 vs ws → (∀ v ∈ vs, ∀ c ∈ v.cells, notArr σ c) → VTL m σ vs as → VTL m2 [] ws as
  | [], [], _, _, _, .nil => .nil
  | v :: vs, w :: ws, _, h, hn, .cons _ a _ as h1 h2 => by
    refine .cons _ _ _ _ ?_ (argsFit_fz hS hf hH hF h.2 (fun x hx => hn x (by simp [hx])) h2)
    have h0 := h.1
    cases w with
    | agg ws =>
      cases v <;> simp only [argFit] at h0
      cases h1 with
      | agg _ as hl => exact .agg _ _ (argsFit1_fz hS hf hH hF h0 (fun c hc => hn (.agg _) (List.mem_cons_self ..) c hc) hl)
    | _ =>
      refine argFit1_fz hS hH hF (argFit1_frz hf h0) ?_ h1
      cases v <;> first | exact trivial | exact hn _ (List.mem_cons_self ..) _ (List.mem_cons_self ..)
  | [], _ :: _, _, h, _, _ => h.elim
  | _ :: _, [], _, h, _, _ => h.elim
/-- All that is known is frozen. -/
def coverM (m : MS) : MS := ⟨fun t j => (m.F t j).map fun _ => 0, m.H, m.ι⟩
def onlyFz (m : MS) : MS := ⟨fun t j => if m.F t j = some 0 then some 0 else none, m.H, m.ι⟩
theorem callT_sound (hS : St m σ) (hs : m.H s = []) {f : Nat} {vs : List V} {as : List AV} (hv : VTL m σ vs as) {K : V → List Obj → Prop} (h : callT P σ f vs K) :
    CallV P f as m.H s fun av H' => ∃ v σ' m', m'.H = H' ∧ Step m σ s v av m' σ' ∧ K v σ' := by
  obtain ⟨cargs, rs, σ1, ⟨hen, hc⟩, hfit, hk⟩ := h
  split at hk
  · rename_i hp
    simp only [Bool.and_eq_true] at hp
    have h1 := hc (coverM m) s as (fun t j k e => by simp only [coverM] at e; cases h : m.F t j <;> simp [h] at e) hs
      ⟨fun id o ho => by simp at ho, fun t j k e => by
        simp only [coverM] at e
        cases h : m.F t j with
        | none => simp [h] at e
        | some k' => exact hS.dom t j k' h⟩ (argsFit_sound (m2 := coverM m) hS rfl (fun t j k e => by simp [coverM, e]) hfit hv)
    refine h1.mono fun av H' ⟨m1, e1, g1, g2, g3, g4⟩ => ?_
    have hno : ∀ t j k, t ≠ s → m1.F t j ≠ some (k + 1) := fun t j k ht e => by
      obtain ⟨_, h2⟩ := g3 t j ht (fun k e => by simp only [coverM] at e; cases h : m.F t j <;> simp [h] at e)
      rw [h2] at e
      simp only [coverM] at e
      cases h : m.F t j <;> simp [h] at e
    have hHs : ∀ t j, t ≠ s → m1.H.ob t j = m.H.ob t j := fun t j ht => (g3 t j ht (fun k e => by simp only [coverM] at e; cases h : m.F t j <;> simp [h] at e)).1
    let m2 : MS := ⟨fun t j => if t = s then m1.F t j else if m.F t j = some 0 then some 0 else none, m1.H, m1.ι⟩
    have hown : ∀ t j k, m1.F t j = some (k + 1) → m2.F t j = some (k + 1) := fun t j k e => by
      have ht : t = s := Classical.byContradiction fun c => hno t j k c e
      simp only [m2, ht, if_true]; rw [← ht]; exact e
    have hS2 : St m2 σ1 := ⟨fun id o ho => OT.plain (m := m1) (m2 := m2) rfl rfl hown (List.all_eq_true.1 hp.2 o (List.mem_of_getElem? ho)) (g1.obj id o ho), fun t j k e => by
      simp only [m2] at e
      split at e
      · exact g1.dom t j k e
      · rename_i ht
        split at e
        · rename_i e0
          obtain ⟨o, ho⟩ := hS.dom t j 0 e0
          exact ⟨o, by show m1.H.ob t j = _; rw [hHs t j ht]; exact ho⟩
        · cases e⟩
    have hF0 : ∀ t j, t ≠ s → m2.F t j = some 0 → m.F t j = some 0 := fun t j ht e => by
      simp only [m2, ht, if_false] at e
      split at e
      · assumption
      · cases e
    obtain ⟨r1, r2, r3⟩ := join_step hS hs hS2 hHs hF0 (fun t j k ht e => by
      simp only [m2, ht, if_false] at e
      split at e <;> cases e)
    exact ⟨_, _, joinM m m2 s σ.length, e1, ⟨r1, r2, r3, VT.shift hF0 (VT.plain (m := m1) (m2 := m2) rfl rfl g4 hp.1)⟩, hk⟩
  · obtain ⟨m0, e0, f1, f2, f3⟩ := frzs_step (s := s) vs hS hs
    have hlen : (frzs σ vs).length = σ.length := (frzs_frz vs σ).1
    rw [← hlen] at hk
    have h1 := hc (onlyFz m0) s as (fun t j k e => by simp only [onlyFz] at e; split at e <;> cases e) (by simp only [onlyFz]; rw [e0]; exact hs)
      ⟨fun id o ho => by simp at ho, fun t j k e => by
        simp only [onlyFz] at e
        split at e
        · rename_i h; exact f1.dom t j 0 h
        · cases e⟩ (argsFit_fz (m := m0) (m2 := onlyFz m0) f1 (frzs_frz vs σ) rfl (fun t j e => by simp [onlyFz, e]) hfit (frzs_not vs σ) (hv.keep f2))
    rw [show (onlyFz m0).H = m.H from e0] at h1
    refine h1.mono fun av H' ⟨m1, e1, g1, g2, g3, g4⟩ => ?_
    have hne : ∀ t j k, (onlyFz m0).F t j ≠ some (k + 1) := fun t j k e => by simp only [onlyFz] at e; split at e <;> cases e
    have hF0 : ∀ t j, t ≠ s → m1.F t j = some 0 → m0.F t j = some 0 := fun t j ht e => by
      rw [(g3 t j ht (hne t j)).2] at e
      simp only [onlyFz] at e
      split at e
      · assumption
      · cases e
    obtain ⟨r1, r2, r3⟩ := join_step f1 (by rw [e0]; exact hs) g1 (fun t j ht => (g3 t j ht (hne t j)).1) hF0 (fun t j k ht e => by
      rw [(g3 t j ht (hne t j)).2] at e
      exact hne t j k e)
    exact ⟨_, _, joinM m0 m1 s (frzs σ vs).length, e1, ⟨r1, f2.trans r2, f3.trans r3, VT.shift hF0 g4⟩, hk⟩
end
end Go.Proofs.YtffiddkignmobaaDoorTv
end
section
/- TV, part Ta: calls that are handed objects are sound. -/
namespace Go.Proofs.YtffiddkignmobaaDoorTv
open Go.Proofs.YtffiddkignmobaaDoorVe
section
variable {P : Program} {m m' m2 : MS} {σ σ0 σ1 σ2 : List Obj} {s : Nat} {r : List Nat}
theorem rens_map (r : List Nat) : ∀ l, V.rens r l = l.map (V.ren r)
  | [] => by simp [V.rens]
  | v :: l => by simp [V.rens, rens_map r l]
theorem fitO_get {r : List Nat} : ∀ {is : List Nat} {os : List Obj}, fitO σ r is os → is.length = os.length ∧ ∀ (k : Nat) (o : Obj), os[k]? = some o → ∃ i : Nat, is[k]? = some i ∧ σ[i]? = some (o.ren r)
  | [], [], _ => ⟨rfl, fun k o h => by simp at h⟩
  | i :: is, o :: os, h => by
    obtain ⟨h1, h2⟩ := fitO_get h.2
    refine ⟨by simp [h1], fun k o' hk => ?_⟩
    cases k with
    | zero => simp at hk; subst hk; exact ⟨i, rfl, h.1⟩
    | succ k => simpa using h2 k o' (by simpa using hk)
  | [], _ :: _, h => h.elim
  | _ :: _, [], h => h.elim
theorem Obj.kind_ren (r : List Nat) (o : Obj) : (o.ren r).kind = o.kind := by cases o <;> rfl
theorem idxOf_of {r : List Nat} (hn : r.Nodup) {k i : Nat} (h : r[k]? = some i) : i ∈ r ∧ r.idxOf i = k := by
  obtain ⟨h1, h2⟩ := List.getElem?_eq_some_iff.1 h
  subst h2
  exact ⟨List.getElem_mem h1, List.Nodup.idxOf_getElem hn k h1⟩
mutual
/-- A value under the names of a small state. -/
theorem VT.fit {ob : List Obj} (hH : m2.H = m.H) (hι : ∀ i, m2.ι i = m.ι (r.getD i 0)) (hz : ∀ t j, m.F t j = some 0 → m2.F t j = some 0) (hk : ∀ k, k < ob.length → kind σ (r.getD k 0) = kind ob k) : ∀ {v : V} {a : AV}, idsIn ob.length v = true → VT m σ (v.ren r) a → VT m2 ob v a
  | .undef, a, _, _ => .undef a
  | .val t x, a, _, h => by
    simp only [V.ren] at h
    cases h with
    | val _ _ _ hs => exact .val t x a (hs.keep fun t j g => ⟨hz t j g, by rw [hH]⟩)
  | .nil t, a, _, h => by simp only [V.ren] at h; cases h; exact .nil t
  | .own id off n, a, hi, h => by
    simp only [V.ren] at h
    simp only [idsIn, decide_eq_true_eq] at hi
    cases h with
    | own _ _ _ _ h1 h2 =>
      exact .own _ _ _ _ hi fun t ht => by
        obtain ⟨o, k1, k2⟩ := h2 t (by rw [hk id hi]; exact ht)
        exact ⟨o, by unfold MS.at; rw [hH, hι]; exact k1, by rw [hι]; exact k2⟩
  | .pel id k, a, hi, h => by
    simp only [V.ren] at h
    simp only [idsIn, decide_eq_true_eq] at hi
    cases h with
    | pel _ _ _ h1 h2 =>
      exact .pel _ _ _ hi fun t ht => by
        obtain ⟨o, k1, k2⟩ := h2 t (by rw [hk id hi]; exact ht)
        exact ⟨o, by unfold MS.at; rw [hH, hι]; exact k1, by rw [hι]; exact k2⟩
  | .pcell id k, a, hi, h => by
    simp only [V.ren] at h
    simp only [idsIn, decide_eq_true_eq] at hi
    cases h with
    | pcell _ _ _ h1 h2 =>
      exact .pcell _ _ _ hi fun ht => by
        obtain ⟨o, k1, k2⟩ := h2 (by rw [hk id hi]; exact ht)
        exact ⟨o, by unfold MS.at; rw [hH, hι]; exact k1, by rw [hι]; exact k2⟩
  | .mp id, a, hi, h => by
    simp only [V.ren] at h
    simp only [idsIn, decide_eq_true_eq] at hi
    cases h with
    | mp _ _ h1 h2 =>
      exact .mp _ _ hi fun ht => by
        obtain ⟨o, k1, k2⟩ := h2 (by rw [hk id hi]; exact ht)
        exact ⟨o, by unfold MS.at; rw [hH, hι]; exact k1, by rw [hι]; exact k2⟩
  | .pv cs, a, hi, h => by
    simp only [V.ren] at h
    simp only [idsIn] at hi
    cases h with
    | pv _ _ as h1 h2 h3 => exact .pv cs a as (by rw [rens_map, List.length_map] at h1; rw [hH]; exact h1) (fun s j g off e => hz s j (h2 s j g off e)) (VTL.fit hH hι hz hk hi h3)
  | .agg cs, a, hi, h => by
    simp only [V.ren] at h
    simp only [idsIn] at hi
    cases h with
    | agg _ as hl => exact .agg _ _ (VTL.fit hH hι hz hk hi hl)
  | .tup cs, a, hi, h => by
    simp only [V.ren] at h
    simp only [idsIn] at hi
    cases h with
    | tup _ as hl => exact .tup _ _ (VTL.fit hH hι hz hk hi hl)
  | .fn f cs, a, hi, h => by
    simp only [V.ren] at h
    simp only [idsIn] at hi
    cases h with
    | fn _ _ as hl => exact .fn _ _ _ (VTL.fit hH hι hz hk hi hl)
  | .nilp, a, _, h => by simp only [V.ren] at h; cases h; exact .nilp
theorem VTL.fit {ob : List Obj} (hH : m2.H = m.H) (hι : ∀ i, m2.ι i = m.ι (r.getD i 0)) (hz : ∀ t j, m.F t j = some 0 → m2.F t j = some 0) (hk : ∀ k, k < ob.length → kind σ (r.getD k 0) = kind ob k) : ∀ {v : List V} {a : List AV}, idsIns ob.length v = true → VTL m σ (V.rens r v) a → VTL m2 ob v a
  | [], a, _, h => by simp only [V.rens] at h; cases h; exact .nil
  | v :: vs, a, hi, h => by
    simp only [V.rens] at h
    simp only [idsIns, Bool.and_eq_true] at hi
    cases h with
    | cons _ _ _ _ h1 h2 => exact .cons _ _ _ _ (VT.fit hH hι hz hk hi.1 h1) (VTL.fit hH hι hz hk hi.2 h2)
end
/-- The state of the model under the names of a small state; b: what becomes of the other objects. -/
def fitM (m : MS) (r : List Nat) (b : Option Nat) : MS := ⟨fun t j => match m.F t j with
  | some (k + 1) => if k ∈ r then some (r.idxOf k + 1) else b
  | x => x, m.H, fun i => m.ι (r.getD i 0)⟩
theorem fitM_zero {b : Option Nat} {t j : Nat} (h : m.F t j = some 0) : (fitM m r b).F t j = some 0 := by simp only [fitM, h]
theorem fitM_st (hS : St m σ) (hn : r.Nodup) (h2 : fitO σ r r σ0) (h5 : (σ0.all (Obj.idsIn σ0.length)) = true) (b : Option Nat) : St (fitM m r b) σ0 := by
  obtain ⟨hr, hg⟩ := fitO_get h2
  have hget : ∀ k o, σ0[k]? = some o → r[k]? = some (r.getD k 0) ∧ σ[r.getD k 0]? = some (o.ren r) := fun k o ho => by
    obtain ⟨i, hi, hs⟩ := hg k o ho
    have : r.getD k 0 = i := by rw [List.getD_eq_getElem?_getD, hi]; rfl
    rw [this]; exact ⟨hi, hs⟩
  have hk : ∀ k, k < σ0.length → kind σ (r.getD k 0) = kind σ0 k := fun k hk => by
    have ho := List.getElem?_eq_getElem hk
    unfold kind
    rw [(hget k _ ho).2, ho]
    exact Obj.kind_ren _ _
  have hown : ∀ k o, σ0[k]? = some o → ∀ t j, m.F t j = some (r.getD k 0 + 1) → (fitM m r b).F t j = some (k + 1) := fun k o ho t j hF => by
    obtain ⟨a, b⟩ := idxOf_of hn (hget k o ho).1
    simp only [fitM, hF]
    rw [if_pos a, b]
  have hz : ∀ t j, m.F t j = some 0 → (fitM m r b).F t j = some 0 := fun t j h => fitM_zero h
  have keep : Keep m.fz m.H (fitM m r b).fz (fitM m r b).H := fun t j g => ⟨hz t j g, rfl⟩
  refine ⟨fun k o ho => ?_, fun t j k hF => ?_⟩
  · have h6 := hS.obj _ _ (hget k o ho).2
    have hin : o.idsIn σ0.length = true := List.all_eq_true.1 h5 o (List.mem_of_getElem? ho)
    cases o with
    | gone => trivial
    | mpt t l =>
      obtain ⟨g, as, k1, k2, k3⟩ := h6
      exact ⟨g, as, k1, hown k _ ho _ _ k2, k3.keep keep⟩
    | hole t l i v =>
      obtain ⟨g, parts, c, k1, k2⟩ := h6
      exact ⟨g, parts, c, k1.move rfl fun t j h => ⟨hown k _ ho t j h, rfl⟩, VT.fit (m := m) (m2 := fitM m r b) rfl (fun _ => rfl) hz hk (by simpa [Obj.idsIn] using hin) k2⟩
    | vars vs =>
      obtain ⟨g, z, as, k1, k2, k3⟩ := h6
      exact ⟨g, z, as, k1, hown k _ ho _ _ k2, VTL.fit (m := m) (m2 := fitM m r b) rfl (fun _ => rfl) hz hk (by simpa [Obj.idsIn] using hin) k3⟩
    | frz t l =>
      obtain ⟨g, ch, k1, k2, k3, k4⟩ := h6
      exact ⟨g, ch, k1, hz _ _ k2, k3, k4.mono fun x c _ _ k => k.keep keep⟩
    | arr t l u =>
      cases u with
      | false =>
        obtain ⟨g, ch, k1, k2, k3, k4⟩ := h6
        exact ⟨g, ch, k1, hown k _ ho _ _ k2, k3, k4.mono fun x c _ _ k => k.keep keep⟩
      | true =>
        obtain ⟨o, O, k1, k2, k3, k4⟩ := h6
        exact ⟨o, O, k1, k2, k3, fun p hp => hown k _ ho _ _ (k4 p hp)⟩
  · simp only [fitM] at hF
    cases h : m.F t j with
    | none => rw [h] at hF; cases hF
    | some k' => exact hS.dom t j k' h
/-- By-value arguments, apart from the objects that are handed over. -/
theorem Rd_apart (hS : St m σ) {t : Ty} {v : V} {a : AV} {k : List t.den → Prop} (h : Rd σ t v k) (hn : notIn r v = true) (hv : VT m σ v a) : ∃ xs, k xs ∧ Sh (fun s j => m.F s j = some 0 ∨ ∃ k, k ∉ r ∧ m.F s j = some (k + 1)) m.H (.list t) xs [a] := by
  unfold Rd at h
  split at h
  · obtain ⟨xs, e, hk⟩ := h
    rw [e] at hv
    cases hv with
    | val _ _ _ hs => exact ⟨xs, hk, hs.keep fun s j g => ⟨.inl g, rfl⟩⟩
  · cases hv
    exact ⟨[], h, .nil, [], rfl, rfl, rfl, rfl, trivial, by simp [most], trivial⟩
  · rename_i id off n
    have hid : id ∉ r := by simpa [notIn] using hn
    split at h
    · obtain ⟨xs, u, e, hn, hk⟩ := h
      obtain ⟨g, ch, O, h1, h2, h3, h4, h5, _, _, h6⟩ := (hS.obj id _ e).foot
      obtain ⟨o, k1, rfl⟩ := hv.own_inv (kind_arr e)
      rw [h1] at k1
      injection k1 with k1
      subst k1
      refine ⟨_, hk, sub_sh h1 (h6.mono fun x c _ _ k => k.keep fun s j hg => ⟨?_, rfl⟩) hn h3 (.inr ⟨id, hid, h2⟩)⟩
      rcases hg with hg | hg
      · exact .inl hg
      · exact .inr ⟨id, hid, h4 _ hg⟩
    · obtain ⟨xs, e, hn, hk⟩ := h
      obtain ⟨g, ch, h1, h2, h3, h4⟩ := (hS.obj id _ e).frz
      obtain ⟨o, k1, rfl⟩ := hv.own_inv (kind_frz e)
      rw [h1] at k1
      injection k1 with k1
      subst k1
      exact ⟨_, hk, (sub_sh h1 h2 hn h3 h4).keep fun s j g => ⟨.inl g, rfl⟩⟩
    · exact h.elim
  · exact h.elim
theorem argFit1_apart (hS : St m σ) (hH : m2.H = m.H) (h0 : ∀ t j, m.F t j = some 0 → m2.F t j = some 0) (h1 : ∀ t j k, m.F t j = some (k + 1) → k ∉ r → m2.F t j = some 0) {v w : V} {a : AV} (h : argFit1 σ v w) (hn : notIn r v = true) (hv : VT m σ v a) : VT m2 [] w a := by
  cases w with
  | val t x =>
    have key : ∀ {t : Ty} {x : t.den}, VT m σ (.val t x) a → VT m2 [] (.val t x) a := fun hv => by
      cases hv with
      | val _ _ _ hs => exact .val _ _ _ (hs.keep fun t j g => ⟨h0 t j g, by rw [hH]⟩)
    cases t with
    | list t =>
      obtain ⟨xs, rfl, hs⟩ := Rd_apart hS h hn hv
      exact .val (.list t) xs a (hs.keep fun t j g => ⟨by
        rcases g with g | ⟨k, g1, g2⟩
        · exact h0 t j g
        · exact h1 t j k g2 g1, by rw [hH]⟩)
    | _ => simp only [argFit1] at h; subst h; exact key hv
  | nil t =>
    cases v <;> simp only [argFit1] at h
    cases hv
    exact .nil t
  | nilp => simp only [argFit1] at h; subst h; cases hv; exact .nilp
  | fn f cs =>
    cases cs with
    | nil =>
      simp only [argFit1] at h
      subst h
      simp [notIn] at hn
    | cons c cs => simp only [argFit1] at h
  | _ => simp only [argFit1] at h
theorem argsFit1_apart (hS : St m σ) (hH : m2.H = m.H) (h0 : ∀ t j, m.F t j = some 0 → m2.F t j = some 0) (h1 : ∀ t j k, m.F t j = some (k + 1) → k ∉ r → m2.F t j = some 0) : ∀ {vs ws : List V} {as : List AV}, argsFit1 σ vs ws → vs.all (notIn r) = true → VTL m σ vs as → VTL m2 [] ws as
  | [], [], _, _, _, .nil => .nil
  | v :: vs, w :: ws, _, h, hn, .cons _ a _ as k1 k2 => by
    simp only [List.all_cons, Bool.and_eq_true] at hn
    exact .cons _ _ _ _ (argFit1_apart hS hH h0 h1 h.1 hn.1 k1) (argsFit1_apart hS hH h0 h1 h.2 hn.2 k2)
  | [], _ :: _, _, h, _, _ => h.elim
  | _ :: _, [], _, h, _, _ => h.elim
theorem argFit_apart (hS : St m σ) (hH : m2.H = m.H) (h0 : ∀ t j, m.F t j = some 0 → m2.F t j = some 0) (h1 : ∀ t j k, m.F t j = some (k + 1) → k ∉ r → m2.F t j = some 0) {v w : V} {a : AV} (h : argFit σ v w) (hn : v.cells.all (notIn r) = true) (hv : VT m σ v a) : VT m2 [] w a := by
  have key : v.cells = [v] → argFit1 σ v w → VT m2 [] w a := fun e h => by
    rw [e] at hn
    exact argFit1_apart hS hH h0 h1 h (by simpa using hn) hv
  cases w with
  | agg ws =>
    cases v <;> simp only [argFit] at h
    cases hv with
    | agg _ as hl => exact .agg _ _ (argsFit1_apart hS hH h0 h1 h (by simpa [V.cells] using hn) hl)
  | _ =>
    cases v with
    | agg vs => simp only [argFit, argFit1] at h <;> first | exact h.elim | (cases h; done) | skip
                all_goals (split at h <;> first | exact h.elim | (cases h; done) | (simp only [Rd] at h))
    | _ => exact key rfl h
theorem argsFitI_sound (hS : St m σ) {ob : List Obj} (hr : r.length = ob.length) (hH : m2.H = m.H) (hι : ∀ i, m2.ι i = m.ι (r.getD i 0)) (h0 : ∀ t j, m.F t j = some 0 → m2.F t j = some 0) (h1 : ∀ t j k, m.F t j = some (k + 1) → k ∉ r → m2.F t j = some 0) (hk : ∀ k, k < ob.length → kind σ (r.getD k 0) = kind ob k) : ∀ {vs ws : List V} {as : List AV}, argsFitI σ r vs ws → VTL m σ vs as → VTL m2 ob ws as
  | [], [], _, _, .nil => .nil
  | v :: vs, w :: ws, _, h, .cons _ a _ as k1 k2 => by
    refine .cons _ _ _ _ ?_ (argsFitI_sound hS hr hH hι h0 h1 hk h.2 k2)
    rcases h.1 with ⟨e1, e2⟩ | ⟨e1, e2⟩
    · rw [e2] at k1
      exact VT.fit hH hι h0 hk (by rw [← hr]; exact e1) k1
    · exact (argFit_apart hS hH h0 h1 e2 e1 k1).keep ⟨fun t j g => ⟨g, rfl⟩, Nat.zero_le _, fun id κ hid => by simp at hid⟩
  | [], _ :: _, _, h, _ => h.elim
  | _ :: _, [], _, h, _ => h.elim
theorem backL_get {k0 n len i : Nat} (h : i < len) : (backL r k0 n len).getD i 0 = backN r k0 n i := by
  simp [backL, h]
theorem putBack_length (q : List Nat) : ∀ (r : List Nat) (os : List Obj) (σ : List Obj), (putBack q r os σ).length = σ.length
  | [], os, σ => by cases os <;> rfl
  | i :: r, [], σ => rfl
  | i :: r, o :: os, σ => by simp [putBack, putBack_length q r os]
theorem putBack_other (q : List Nat) : ∀ (r : List Nat) (os : List Obj) (σ : List Obj) {j : Nat}, j ∉ r → (putBack q r os σ)[j]? = σ[j]?
  | [], os, σ, j, _ => by cases os <;> rfl
  | i :: r, [], σ, j, _ => rfl
  | i :: r, o :: os, σ, j, h => by
    simp only [putBack]
    rw [putBack_other q r os _ (fun c => h (by simp [c])), List.getElem?_set_ne (fun e => h (by simp [e]))]
theorem putBack_at (q : List Nat) : ∀ (r : List Nat) (os : List Obj) (σ : List Obj), r.Nodup → (∀ i ∈ r, i < σ.length) → ∀ (k : Nat) (i : Nat) (o : Obj), r[k]? = some i → os[k]? = some o → (putBack q r os σ)[i]? = some (o.ren q)
  | [], os, σ, _, _, k, i, o, h, _ => by simp at h
  | j :: r, [], σ, _, _, k, i, o, _, h => by simp at h
  | j :: r, o' :: os, σ, hn, hl, 0, i, o, h1, h2 => by
    simp at h1 h2
    subst h1; subst h2
    simp only [putBack]
    rw [putBack_other q r os _ (List.nodup_cons.1 hn).1]
    simp [hl j (by simp)]
  | j :: r, o' :: os, σ, hn, hl, k + 1, i, o, h1, h2 => by
    simp only [putBack]
    exact putBack_at q r os _ (List.nodup_cons.1 hn).2 (fun i hi => by simpa using hl i (by simp [hi])) k i o (by simpa using h1) (by simpa using h2)
section
variable {q : List Nat}
mutual
/-- Plain values under new names. -/
theorem VT.mv (hH : m2.H = m'.H) (hι : ∀ i, i < σ1.length → m2.ι (q.getD i 0) = m'.ι i) (hk : ∀ i, i < σ1.length → kind σ2 (q.getD i 0) = kind σ1 i) (hl : ∀ i, i < σ1.length → q.getD i 0 < σ2.length) : ∀ {v : V} {a : AV}, (plainV v = true ∨ (∀ t j, m'.F t j = some 0 → m2.F t j = some 0)) → VT m' σ1 v a → VT m2 σ2 (v.ren q) a
  | .undef, a, _, _ => by simp only [V.ren]; exact .undef a
  | .val t x, a, hp, h => by
    simp only [V.ren]
    cases h with
    | val _ _ _ hs =>
      rcases hp with hp | hp
      · exact .val t x a (hs.free (by simpa [plainV] using hp))
      · exact .val t x a (hs.keep fun t j g => ⟨hp t j g, by rw [hH]⟩)
  | .nil t, a, _, h => by simp only [V.ren]; cases h; exact .nil t
  | .own id off n, a, _, h => by
    simp only [V.ren]
    cases h with
    | own _ _ _ _ h1 h2 =>
      exact .own _ _ _ _ (hl id h1) fun t ht => by
        obtain ⟨o, k1, k2⟩ := h2 t (by rw [← hk id h1]; exact ht)
        exact ⟨o, by unfold MS.at; rw [hH, hι id h1]; exact k1, by rw [hι id h1]; exact k2⟩
  | .pel id k, a, _, h => by
    simp only [V.ren]
    cases h with
    | pel _ _ _ h1 h2 =>
      exact .pel _ _ _ (hl id h1) fun t ht => by
        obtain ⟨o, k1, k2⟩ := h2 t (by rw [← hk id h1]; exact ht)
        exact ⟨o, by unfold MS.at; rw [hH, hι id h1]; exact k1, by rw [hι id h1]; exact k2⟩
  | .pcell id k, a, _, h => by
    simp only [V.ren]
    cases h with
    | pcell _ _ _ h1 h2 =>
      exact .pcell _ _ _ (hl id h1) fun ht => by
        obtain ⟨o, k1, k2⟩ := h2 (by rw [← hk id h1]; exact ht)
        exact ⟨o, by unfold MS.at; rw [hH, hι id h1]; exact k1, by rw [hι id h1]; exact k2⟩
  | .mp id, a, _, h => by
    simp only [V.ren]
    cases h with
    | mp _ _ h1 h2 =>
      exact .mp _ _ (hl id h1) fun ht => by
        obtain ⟨o, k1, k2⟩ := h2 (by rw [← hk id h1]; exact ht)
        exact ⟨o, by unfold MS.at; rw [hH, hι id h1]; exact k1, by rw [hι id h1]; exact k2⟩
  | .pv cs, a, hp, h => by
    rcases hp with hp | hp
    · simp [plainV] at hp
    · simp only [V.ren]
      cases h with
      | pv _ _ as h1 h2 h3 => exact .pv _ _ as (by rw [rens_map, List.length_map, hH]; exact h1) (fun s j g off e => hp s j (h2 s j g off e)) (VTL.mv hH hι hk hl (.inr hp) h3)
  | .agg cs, a, hp, h => by
    simp only [V.ren]
    cases h with
    | agg _ as hh => exact .agg _ _ (VTL.mv hH hι hk hl (by simpa [plainV] using hp) hh)
  | .tup cs, a, hp, h => by
    simp only [V.ren]
    cases h with
    | tup _ as hh => exact .tup _ _ (VTL.mv hH hι hk hl (by simpa [plainV] using hp) hh)
  | .fn f cs, a, hp, h => by
    simp only [V.ren]
    cases h with
    | fn _ _ as hh => exact .fn f _ _ (VTL.mv hH hι hk hl (by simpa [plainV] using hp) hh)
  | .nilp, a, _, h => by simp only [V.ren]; cases h; exact .nilp
theorem VTL.mv (hH : m2.H = m'.H) (hι : ∀ i, i < σ1.length → m2.ι (q.getD i 0) = m'.ι i) (hk : ∀ i, i < σ1.length → kind σ2 (q.getD i 0) = kind σ1 i) (hl : ∀ i, i < σ1.length → q.getD i 0 < σ2.length) : ∀ {v : List V} {a : List AV}, (plainVs v = true ∨ (∀ t j, m'.F t j = some 0 → m2.F t j = some 0)) → VTL m' σ1 v a → VTL m2 σ2 (V.rens q v) a
  | [], a, _, h => by simp only [V.rens]; cases h; exact .nil
  | v :: vs, a, hp, h => by
    simp only [V.rens]
    simp only [plainVs, Bool.and_eq_true] at hp
    cases h with
    | cons _ _ _ _ h1 h2 => exact .cons _ _ _ _ (VT.mv hH hι hk hl (hp.imp_left And.left) h1) (VTL.mv hH hι hk hl (hp.imp_left And.right) h2)
end
theorem OT.mv (hH : m2.H = m'.H) (hι : ∀ i, i < σ1.length → m2.ι (q.getD i 0) = m'.ι i) (hk : ∀ i, i < σ1.length → kind σ2 (q.getD i 0) = kind σ1 i) (hl : ∀ i, i < σ1.length → q.getD i 0 < σ2.length) {i : Nat} (hi : i < σ1.length) (hF : ∀ t j, m'.F t j = some (i + 1) → m2.F t j = some (q.getD i 0 + 1)) {o : Obj} (hp : o.plain = true ∨ (∀ t j, m'.F t j = some 0 → m2.F t j = some 0)) (h : OT m' σ1 i o) : OT m2 σ2 (q.getD i 0) (o.ren q) := by
  have hat : m2.at (q.getD i 0) = m'.at i := by unfold MS.at; rw [hH, hι i hi]
  cases o with
  | gone => trivial
  | mpt t l =>
    obtain ⟨g, as, k1, k2, k3⟩ := h
    refine ⟨g, as, by rw [hat]; exact k1, by rw [hι i hi]; exact hF _ _ k2, ?_⟩
    rcases hp with hp | hp
    · exact k3.free (by simpa [Obj.plain] using hp)
    · exact k3.keep fun t j g => ⟨hp t j g, by rw [hH]⟩
  | frz t l =>
    rcases hp with hp | hp
    · simp [Obj.plain] at hp
    · obtain ⟨g, ch, k1, k2, k3, k4⟩ := h
      exact ⟨g, ch, by rw [hat]; exact k1, by rw [hι i hi]; exact hp _ _ k2, k3, k4.mono fun x c _ _ k => k.keep fun t j g => ⟨hp t j g, by rw [hH]⟩⟩
  | hole t l j v =>
    obtain ⟨g, parts, c, k1, k2⟩ := h
    exact ⟨g, parts, c, k1.move (hι i hi) fun t j h => ⟨hF t j h, by rw [hH]⟩, VT.mv hH hι hk hl (by simpa [Obj.plain] using hp) k2⟩
  | vars vs =>
    obtain ⟨g, z, as, k1, k2, k3⟩ := h
    exact ⟨g, z, as, by rw [hat]; exact k1, by rw [hι i hi]; exact hF _ _ k2, VTL.mv hH hι hk hl (by simpa [Obj.plain] using hp) k3⟩
  | arr t l u =>
    cases u with
    | false =>
      rcases hp with hp | hp
      · simp [Obj.plain] at hp
      · obtain ⟨g, ch, k1, k2, k3, k4⟩ := h
        exact ⟨g, ch, by rw [hat]; exact k1, by rw [hι i hi]; exact hF _ _ k2, k3, k4.mono fun x c _ _ k => k.keep fun t j g => ⟨hp t j g, by rw [hH]⟩⟩
    | true =>
    obtain ⟨o, O, k1, k2, k3, k4⟩ := h
    exact ⟨o, O, by rw [hat]; exact k1, by rw [hι i hi, hH]; exact k2, k3, fun p hp => hF _ _ (k4 p hp)⟩
end
end
end Go.Proofs.YtffiddkignmobaaDoorTv
end
section
/- TV, part Tb: calls that are handed objects are sound (the end). -/
namespace Go.Proofs.YtffiddkignmobaaDoorTv
open Go.Proofs.YtffiddkignmobaaDoorVe
section
variable {P : Program} {m : MS} {σ : List Obj} {s : Nat}
def mapF (q : List Nat) (len : Nat) : Option Nat → Option Nat
  | some (i + 1) => if i < len then some (q.getD i 0 + 1) else none
  | x => x
theorem callI_sound (hS : St m σ) (hs : m.H s = []) {f : Nat} {vs : List V} {as : List AV} (hv : VTL m σ vs as) {K : V → List Obj → Prop} (h : callI P σ f vs K) :
    CallV P f as m.H s fun av H' => ∃ v σ' m', m'.H = H' ∧ Step m σ s v av m' σ' ∧ K v σ' := by
  obtain ⟨r, cargs, σ0, rs, σ1, ⟨hen, hc⟩, hn, hfit, hids, hor, hk⟩ := h
  obtain ⟨hr, hg⟩ := fitO_get hfit
  have hget : ∀ k o, σ0[k]? = some o → r[k]? = some (r.getD k 0) ∧ σ[r.getD k 0]? = some (o.ren r) := fun k o ho => by
    obtain ⟨i, hi, hs⟩ := hg k o ho
    have : r.getD k 0 = i := by rw [List.getD_eq_getElem?_getD, hi]; rfl
    rw [this]; exact ⟨hi, hs⟩
  have hk0 : ∀ k, k < σ0.length → kind σ (r.getD k 0) = kind σ0 k := fun k hk => by
    have ho := List.getElem?_eq_getElem hk
    unfold kind
    rw [(hget k _ ho).2, ho]
    exact Obj.kind_ren _ _
  have hlt : ∀ i ∈ r, i < σ.length := fun i hi => by
    obtain ⟨k, hk⟩ := List.mem_iff_getElem?.1 hi
    have h1 : k < σ0.length := by rw [← hr]; exact (List.getElem?_eq_some_iff.1 hk).1
    obtain ⟨h2, h3⟩ := hget k _ (List.getElem?_eq_getElem h1)
    rw [hk] at h2
    injection h2 with h2
    rw [← h2] at h3
    exact (List.getElem?_eq_some_iff.1 h3).1
  obtain ⟨b, hbb, hargs, hp⟩ : ∃ b : Option Nat, (∀ k, b ≠ some (k + 1)) ∧ VTL (fitM m r b) σ0 cargs as ∧ ((plainV rs = true ∧ σ1.all Obj.plain = true) ∨ b = none) := by
    rcases hor with ⟨ha, hp⟩ | ⟨rfl, hi⟩
    · simp only [Bool.and_eq_true] at hp
      have hb : ∀ t j k, m.F t j = some (k + 1) → k ∉ r → (fitM m r (some 0)).F t j = some 0 := fun t j k h1 h2 => by simp only [fitM, h1]; rw [if_neg h2]
      exact ⟨some 0, by simp, argsFitI_sound (m2 := fitM m r (some 0)) hS hr rfl (fun _ => rfl) (fun t j h => fitM_zero h) hb hk0 ha hv, .inl hp⟩
    · exact ⟨none, by simp, VTL.fit (m := m) (m2 := fitM m r none) rfl (fun _ => rfl) (fun t j h => fitM_zero h) hk0 (by rw [← hr]; exact hi) hv, .inr rfl⟩
  have hS0 := fitM_st hS hn hfit hids b
  have hcall := hc (fitM m r b) s as (fun t j k e => by
    simp only [fitM] at e
    cases h : m.F t j with
    | none => rw [h] at e; cases e
    | some k' =>
      cases k' with
      | zero => rw [h] at e; cases e
      | succ k' =>
        rw [h] at e
        simp only at e
        split at e
        · rename_i hin
          injection e with e
          have := List.idxOf_lt_length_of_mem hin
          omega
        · exact absurd e (hbb k)) hs hS0 hargs
  refine CallV.mono hcall fun av H' ⟨m', e1, g1, g2, g3, g4⟩ => ?_
  have hl01 := g2.len
  generalize hq : backL r σ0.length σ.length σ1.length = q at hk
  have hqi : ∀ i, i < σ1.length → q.getD i 0 = backN r σ0.length σ.length i := fun i hi => by rw [← hq]; exact backL_get hi
  have hq1 : ∀ i, i < σ0.length → q.getD i 0 = r.getD i 0 ∧ r[i]? = some (q.getD i 0) := fun i hi => by
    have h1 := hqi i (by omega)
    rw [backN, if_pos hi] at h1
    have := (hget i _ (List.getElem?_eq_getElem hi)).1
    exact ⟨h1, by rw [h1]; exact this⟩
  have hq2 : ∀ i, σ0.length ≤ i → i < σ1.length → q.getD i 0 = σ.length + (i - σ0.length) := fun i h1 h2 => by
    rw [hqi i h2, backN, if_neg (by omega)]
  generalize hσ2 : putBack q r σ1 σ ++ (σ1.drop σ0.length).map (Obj.ren q) = σ2 at hk
  have hpl := putBack_length q r σ1 σ
  have hlen2 : σ2.length = σ.length + (σ1.length - σ0.length) := by rw [← hσ2]; simp [hpl]
  have hqin : ∀ i, i < σ0.length → q.getD i 0 ∈ r ∧ r.idxOf (q.getD i 0) = i := fun i hi => idxOf_of hn (hq1 i hi).2
  -- the objects behind the call
  have ho2 : ∀ i o, σ1[i]? = some o → σ2[q.getD i 0]? = some (o.ren q) := fun i o ho => by
    have hi := (List.getElem?_eq_some_iff.1 ho).1
    rw [← hσ2]
    by_cases h1 : i < σ0.length
    · have h2 := hqin i h1
      rw [List.getElem?_append_left (by rw [hpl]; exact hlt _ h2.1)]
      exact putBack_at q r σ1 σ hn hlt i _ o (hq1 i h1).2 ho
    · rw [hq2 i (by omega) hi, List.getElem?_append_right (by rw [hpl]; omega), hpl, Nat.add_sub_cancel_left, List.getElem?_map, List.getElem?_drop]
      have : σ0.length + (i - σ0.length) = i := by omega
      rw [this, ho]; rfl
  have hold2 : ∀ id, id < σ.length → id ∉ r → σ2[id]? = σ[id]? := fun id h1 h2 => by
    rw [← hσ2, List.getElem?_append_left (by rw [hpl]; exact h1)]
    exact putBack_other q r σ1 σ h2
  have hk2 : ∀ i, i < σ1.length → kind σ2 (q.getD i 0) = kind σ1 i := fun i hi => by
    have ho := List.getElem?_eq_getElem hi
    unfold kind
    rw [ho2 i _ ho, ho]
    exact Obj.kind_ren _ _
  have hl2 : ∀ i, i < σ1.length → q.getD i 0 < σ2.length := fun i hi => by
    have ho := List.getElem?_eq_getElem hi
    exact (List.getElem?_eq_some_iff.1 (ho2 i _ ho)).1
  let m2 : MS := ⟨fun t j => if t = s then mapF q σ1.length (m'.F t j) else match m.F t j with
    | some (k + 1) => if k ∈ r then mapF q σ1.length (m'.F t j) else some (k + 1)
    | x => x, m'.H, fun id => if id ∈ r then m'.ι (r.idxOf id) else if id < σ.length then m.ι id else m'.ι (σ0.length + (id - σ.length))⟩
  have hι : ∀ i, i < σ1.length → m2.ι (q.getD i 0) = m'.ι i := fun i hi => by
    by_cases h1 : i < σ0.length
    · obtain ⟨a, b⟩ := hqin i h1
      simp only [m2, a, if_true, b]
    · have h2 := hq2 i (by omega) hi
      have h3 : q.getD i 0 ∉ r := fun c => by have := hlt _ c; omega
      simp only [m2, h3, if_false]
      rw [if_neg (by omega), h2]
      congr 1
      omega
  have hns : ∀ t j k, m.F t j = some k → t ≠ s := fun t j k h e => by
    obtain ⟨o, ho⟩ := hS.dom t j k h
    rw [e] at ho; simp [Heap.ob, hs] at ho
  -- what the call leaves alone
  have hfr : ∀ t j, t ≠ s → (∀ k, m.F t j = some (k + 1) → k ∉ r) → m'.H.ob t j = m.H.ob t j ∧ m'.F t j = (fitM m r b).F t j ∧ m2.F t j = m.F t j := fun t j ht h1 => by
    have h2 : ∀ k, (fitM m r b).F t j ≠ some (k + 1) := fun k e => by
      simp only [fitM] at e
      cases h : m.F t j with
      | none => rw [h] at e; cases e
      | some k' =>
        cases k' with
        | zero => rw [h] at e; cases e
        | succ k' =>
          rw [h] at e
          simp only at e
          rw [if_neg (h1 k' h)] at e
          exact hbb k e
    obtain ⟨a, b⟩ := g3 t j ht h2
    refine ⟨a, b, ?_⟩
    simp only [m2, ht, if_false]
    cases h : m.F t j with
    | none => rfl
    | some k' =>
      cases k' with
      | zero => rfl
      | succ k' => simp only; rw [if_neg (h1 k' h)]
  have hownF : ∀ i, i < σ1.length → ∀ t j, m'.F t j = some (i + 1) → m2.F t j = some (q.getD i 0 + 1) := fun i hi t j hF => by
    have hm : mapF q σ1.length (m'.F t j) = some (q.getD i 0 + 1) := by rw [hF]; simp only [mapF]; rw [if_pos hi]
    by_cases ht : t = s
    · simp only [m2, ht, if_true]; rw [← ht]; exact hm
    · simp only [m2, ht, if_false]
      by_cases hx : ∃ k, m.F t j = some (k + 1) ∧ k ∈ r
      · obtain ⟨k, k1, k2⟩ := hx
        rw [k1]
        simp only
        rw [if_pos k2]; exact hm
      · have hx' : ∀ k, m.F t j = some (k + 1) → k ∉ r := fun k e c => hx ⟨k, e, c⟩
        have h3 := (hfr t j ht hx').2.1
        rw [hF] at h3
        simp only [fitM] at h3
        cases h : m.F t j with
        | none => rw [h] at h3; cases h3
        | some k' =>
          cases k' with
          | zero => rw [h] at h3; cases h3
          | succ k' =>
            rw [h] at h3
            simp only at h3
            rw [if_neg (hx' k' h)] at h3
            exact absurd h3.symm (hbb i)
  have hz : b = none → ∀ t j, m'.F t j = some 0 → m2.F t j = some 0 := fun hb t j h0 => by
    have hm : mapF q σ1.length (m'.F t j) = some 0 := by rw [h0]; rfl
    by_cases ht : t = s
    · simp only [m2, ht, if_true]; rw [← ht]; exact hm
    · by_cases hx : ∃ k, m.F t j = some (k + 1) ∧ k ∈ r
      · obtain ⟨k, k1, k2⟩ := hx
        simp only [m2, ht, if_false]
        rw [k1]
        simp only
        rw [if_pos k2]; exact hm
      · have hx' : ∀ k, m.F t j = some (k + 1) → k ∉ r := fun k e c => hx ⟨k, e, c⟩
        obtain ⟨_, h3, h4⟩ := hfr t j ht hx'
        rw [h4]
        rw [h0] at h3
        simp only [fitM] at h3
        cases h : m.F t j with
        | none => rw [h] at h3; cases h3
        | some k' =>
          cases k' with
          | zero => rfl
          | succ k' =>
            rw [h] at h3
            simp only at h3
            rw [if_neg (hx' k' h), hb] at h3
            cases h3
  have kp : Kp m σ m2 σ2 := by
    refine ⟨fun t j h => ?_, by omega, fun id κ hid hκ => ?_⟩
    · have h1 : ∀ k, m.F t j = some (k + 1) → k ∉ r := fun k e => by
        have h' : m.F t j = some 0 := h
        rw [h'] at e; injection e with e; omega
      obtain ⟨a, _, c⟩ := hfr t j (hns _ _ _ h) h1
      exact ⟨c.trans h, a⟩
    · by_cases hir : id ∈ r
      · obtain ⟨i, hi⟩ := List.mem_iff_getElem?.1 hir
        have hi0 : i < σ0.length := by rw [← hr]; exact (List.getElem?_eq_some_iff.1 hi).1
        have hqe : q.getD i 0 = id := by
          have := (hq1 i hi0).2
          rw [hi] at this
          injection this with this
          exact this.symm
        rw [← hqe, hk2 i (by omega)] at hκ
        obtain ⟨b1, b2, b3⟩ := g2.live i κ hi0 hκ
        have hri : r.getD i 0 = id := by rw [← (hq1 i hi0).1]; exact hqe
        refine ⟨by rw [← hri, hk0 i hi0]; exact b1, ?_, fun o ho => ?_⟩
        · have := hι i (by omega)
          rw [hqe] at this
          rw [this, b2]
          simp only [fitM, hri]
        · obtain ⟨o', c1, c2⟩ := b3 o (by unfold MS.at; simp only [fitM, hri]; exact ho)
          refine ⟨o', ?_, c2⟩
          unfold MS.at at c1 ⊢
          have := hι i (by omega)
          rw [hqe] at this
          rw [this]
          exact c1
      · unfold kind at hκ
        rw [hold2 id hid hir] at hκ
        have hκ' : kind σ id = some κ := hκ
        have hιe : m2.ι id = m.ι id := by simp only [m2, hir, if_false, hid, if_true]
        refine ⟨hκ', hιe, fun o ho => ⟨o, ?_, rfl⟩⟩
        obtain ⟨hF, _⟩ := OT.owner hS hκ'
        have h1 : ∀ k, m.F (m.ι id).1 (m.ι id).2 = some (k + 1) → k ∉ r := fun k e => by
          rcases hF with h | h
          · rw [h] at e; injection e with e
            have : id = k := by omega
            rw [← this]; exact hir
          · rw [h] at e; injection e with e; omega
        unfold MS.at
        rw [hιe]
        show m'.H.ob _ _ = _
        rw [(hfr _ _ (by rcases hF with h | h <;> exact hns _ _ _ h) h1).1]
        exact ho
  refine ⟨_, _, m2, e1, ⟨⟨fun id o ho => ?_, fun t j k hF => ?_⟩, kp, fun t j ht hno => ?_, VT.mv (m' := m') (m2 := m2) (σ1 := σ1) rfl hι hk2 hl2 (hp.imp And.left hz) g4⟩, hk⟩
  · have viaq : ∀ i, i < σ1.length → q.getD i 0 = id → OT m2 σ2 id o := fun i hi e => by
      have ho1 := List.getElem?_eq_getElem hi
      have h1 := ho2 i _ ho1
      rw [e, ho] at h1
      injection h1 with h1
      subst h1
      subst e
      exact OT.mv (m' := m') (m2 := m2) rfl hι hk2 hl2 hi (hownF i hi) (hp.imp (fun hp => List.all_eq_true.1 hp.2 _ (List.mem_of_getElem? ho1)) hz) (g1.obj i _ ho1)
    by_cases hir : id ∈ r
    · obtain ⟨i, hi⟩ := List.mem_iff_getElem?.1 hir
      have hi0 : i < σ0.length := by rw [← hr]; exact (List.getElem?_eq_some_iff.1 hi).1
      refine viaq i (by omega) ?_
      have := (hq1 i hi0).2
      rw [hi] at this
      injection this with this
      exact this.symm
    · by_cases hid : id < σ.length
      · rw [hold2 id hid hir] at ho
        refine OT.keep kp (by simp only [m2, hir, if_false, hid, if_true]) (fun t j h => ?_) (hS.obj id o ho)
        have h1 : ∀ k, m.F t j = some (k + 1) → k ∉ r := fun k e => by
          rw [h] at e; injection e with e
          have : id = k := by omega
          rw [← this]; exact hir
        obtain ⟨a, _, c⟩ := hfr t j (hns _ _ _ h) h1
        exact ⟨c.trans h, a⟩
      · have hlt2 := (List.getElem?_eq_some_iff.1 ho).1
        refine viaq (σ0.length + (id - σ.length)) (by omega) ?_
        rw [hq2 _ (by omega) (by omega)]
        omega
  · simp only [m2] at hF ⊢
    have key : ∀ k, mapF q σ1.length (m'.F t j) = some k → ∃ o, m'.H.ob t j = some o := fun k e => by
      cases h : m'.F t j with
      | none => rw [h] at e; cases e
      | some k' => exact g1.dom t j k' h
    split at hF
    · exact key k hF
    · rename_i ht
      have oth : (∀ k, m.F t j = some (k + 1) → k ∉ r) → ∀ k, m.F t j = some k → ∃ o, m'.H.ob t j = some o := fun h1 k h2 => by
        obtain ⟨o, ho⟩ := hS.dom t j k h2
        exact ⟨o, by rw [(hfr t j ht h1).1]; exact ho⟩
      cases h : m.F t j with
      | none => rw [h] at hF; cases hF
      | some k' =>
        cases k' with
        | zero => exact oth (fun k e => by rw [h] at e; injection e with e; omega) 0 h
        | succ k' =>
          rw [h] at hF
          simp only at hF
          split at hF
          · exact key k hF
          · rename_i hn'
            exact oth (fun k e => by
              rw [h] at e; injection e with e
              have : k' = k := by omega
              rw [← this]; exact hn') _ h
  · obtain ⟨a, _, c⟩ := hfr t j ht (fun k e => absurd e (hno k))
    exact ⟨a, c⟩
end
end Go.Proofs.YtffiddkignmobaaDoorTv
end
section
/- TV, part Tc: maps. -/
namespace Go.Proofs.YtffiddkignmobaaDoorTv
open Go.Proofs.YtffiddkignmobaaDoorVe
theorem Me.find {G : Nat → Nat → Prop} {H : Heap} {t : Ty} {n : Int} : ∀ {l : List (Int × t.den)} {cs : List AV}, Me G H t l cs → ∃ r, findE .i64 n cs = some r ∧ match r with
    | none => hasL t l n = false ∧ getL t l n = dflt t
    | some a => hasL t l n = true ∧ Sh G H t (getL t l n) [a]
  | [], _, h => by
    simp only [Me] at h
    subst h
    exact ⟨none, rfl, rfl, rfl⟩
  | p :: l, _, ⟨a, cs', e, h1, h2, h3⟩ => by
    subst e
    by_cases hp : n = p.1
    · refine ⟨some a, by simp [findE, hp], by simp [hasL, hp], ?_⟩
      have : getL t (p :: l) n = p.2 := by simp [getL, hp]
      rw [this]; exact h1
    · obtain ⟨r, k1, k2⟩ := Me.find (n := n) h3
      have hb : (p.1 == n) = false := by simpa using fun e => hp e.symm
      refine ⟨r, by simp only [findE, if_true, if_neg hp]; exact k1, ?_⟩
      have e1 : hasL t (p :: l) n = hasL t l n := by simp [hasL, hb]
      have e2 : getL t (p :: l) n = getL t l n := by simp [getL, List.find?_cons, hb]
      rw [e1, e2]; exact k2
theorem Me.set {G : Nat → Nat → Prop} {H : Heap} {t : Ty} {n : Int} {x : t.den} {a : AV} (hx : Sh G H t x [a]) (ha : a.isCell = true) : ∀ {l : List (Int × t.den)} {cs : List AV}, Me G H t l cs → Me G H t (setL t n x l) (setE .i64 n a cs)
  | [], _, h => by
    simp only [Me] at h
    subst h
    exact ⟨a, [], rfl, hx, ha, rfl⟩
  | p :: l, _, ⟨b, cs', e, h1, h2, h3⟩ => by
    subst e
    by_cases hp : p.1 = n
    · simp only [setL, if_pos hp, setE, if_pos hp.symm]
      exact ⟨a, cs', rfl, hx, ha, h3⟩
    · have hp2 : ¬ n = p.1 := fun e => hp e.symm
      simp only [setL, if_neg hp, setE, if_neg hp2]
      exact ⟨b, _, rfl, h1, h2, Me.set hx ha h3⟩
theorem zOk_sh {G : Nat → Nat → Prop} {H : Heap} {t : Ty} {z : AV} (h : zOk t z = true) : Sh G H t (dflt t) [z] := by
  unfold zOk at h
  split at h
  · simp only [Bool.not_eq_true'] at h; subst h; rfl
  · exact ⟨.nil, [], rfl, rfl, rfl, rfl, trivial, by simp [dflt, huge], trivial⟩
  · simp only [Bool.and_eq_true, decide_eq_true_eq] at h
    obtain ⟨rfl, rfl⟩ := h; rfl
  · cases h
section
variable {P : Program} {tab : List (Nat × TE)} {m : MS} {σ : List Obj} {s : Nat} {ρ : Operand → V} {ρv : Operand → AV} {K : V → List Obj → Prop}
theorem mapB_spec {t : Nat} {τ : Ty} (h : mapB P t τ = true) : ∃ kt e a1 b1 z1 a2 b2 z2 d a3 b3 z, ti P t = some ⟨.map kt e, a1, b1, z1⟩ ∧ ti P kt = some ⟨.int .i64, a2, b2, z2⟩ ∧ ti P e = some ⟨d, a3, b3, [z]⟩ ∧ d.isAgg = false ∧ zOk τ z = true := by
  unfold mapB at h
  split at h
  · rename_i kt e a1 b1 z1 h1
    simp only [Bool.and_eq_true] at h
    obtain ⟨h2, h3⟩ := h
    split at h2
    · rename_i a2 b2 z2 h4
      split at h3
      · rename_i d a3 b3 z h5
        simp only [Bool.and_eq_true, Bool.not_eq_true'] at h3
        exact ⟨kt, e, a1, b1, z1, a2, b2, z2, d, a3, b3, z, h1, h4, h5, h3.1, h3.2⟩
      · cases h3
    · cases h2
  · cases h
theorem makeMap_sound (hS : St m σ) (hs : m.H s = []) {t : TypeId} {τ : Ty} (h : K (.mp σ.length) (σ ++ [.mpt τ []])) : Snd P m σ s ρv (.makeMap t none) K := by
  obtain ⟨r1, r2, r3⟩ := new_step hS hs (.mpt τ []) ⟨0, MZ, []⟩ fun kp => ⟨0, [], newM_at _ _ _ _, by rw [newM_ι]; exact newM_F _ _ _ _, rfl⟩
  refine ⟨_, _, rfl, _, _, _, rfl, ⟨r1, r2, r3, ?_⟩, h⟩
  refine .mp _ _ (by simp) fun _ => ⟨⟨0, MZ, []⟩, newM_at m s _ _, ?_⟩
  rw [newM_ι]
theorem get_sound (hS : St m σ) {t : TypeId} {mo ko : Operand} {ok : Bool} (hm : VT m σ (ρ mo) (ρv mo)) (hk : VT m σ (ρ ko) (ρv ko)) (h : getT P σ t (ρ mo) (ρ ko) ok K) : Snd P m σ s ρv (.lookup t mo ko ok) K := by
  unfold getT at h
  split at h
  · rename_i id n e1 e2
    rw [e1] at hm
    rw [e2] at hk
    split at h
    · rename_i τ l e3
      obtain ⟨hB, h⟩ := h
      obtain ⟨kt, e, a1, b1, z1, a2, b2, z2, d, a3, b3, z, k1, k2, k3, k4, k5⟩ := mapB_spec hB
      obtain ⟨g, as, q1, q2, q3⟩ := hS.obj id _ e3
      obtain ⟨o, q4, q5⟩ := hm.mp_inv (kind_mpt e3)
      rw [q1] at q4
      injection q4 with q4
      subst q4
      have q6 : m.H.ob (m.ι id).1 (m.ι id).2 = some ⟨g, MZ, as⟩ := q1
      obtain ⟨r, r1, r2⟩ := q3.find (n := n)
      have hop : opE P s ρv m.H (.lookup t mo ko ok) = some (lookE ok z r, m.H) := by
        simp only [opE, getM, k1, q5, hk.int_inv, k2, k3, q6, r1, k4, and_self, if_true]
      cases r with
      | none =>
        have hv : VT m σ (.val τ (getL τ l n)) z := by rw [r2.2]; exact .val _ _ _ (zOk_sh k5)
        cases ok with
        | true => exact Snd.same hS hop (.tup _ _ (.cons _ _ _ _ hv (.cons _ _ _ _ (by rw [r2.1]; exact VT.bool false) .nil))) h
        | false => exact Snd.same hS hop hv h
      | some a =>
        have hv : VT m σ (.val τ (getL τ l n)) a := .val _ _ _ r2.2
        cases ok with
        | true => exact Snd.same hS hop (.tup _ _ (.cons _ _ _ _ hv (.cons _ _ _ _ (by rw [r2.1]; exact VT.bool true) .nil))) h
        | false => exact Snd.same hS hop hv h
    · exact h.elim
  · exact h.elim
/-- A value is put: what it shows is frozen. -/
theorem put_core (hS : St m σ) (hs : m.H s = []) {t : TypeId} {mo ko xo : Operand} {id : Nat} {n : Int} {τ : Ty} {l : List (Int × τ.den)} (hm : VT m σ (.mp id) (ρv mo)) (hk : VT m σ (.val (.int .i64) n) (ρv ko)) (e3 : σ[id]? = some (.mpt τ l)) (hB : mapB P t τ = true) {x : τ.den} (hx : Sh m.fz m.H τ x [ρv xo]) (hc : (ρv xo).isCell = true) :
    (∀ H2, H2 = m.H → putM P H2 t (ρv mo) (ρv ko) (ρv xo) = some (.undef, H2.put (m.ι id).1 (m.ι id).2 ⟨((m.at id).map (·.g)).getD 0, MZ, setE .i64 n (ρv xo) (((m.at id).map (·.cells)).getD [])⟩)) ∧
    ∃ m', m'.H = m.H.put (m.ι id).1 (m.ι id).2 ⟨((m.at id).map (·.g)).getD 0, MZ, setE .i64 n (ρv xo) (((m.at id).map (·.cells)).getD [])⟩ ∧ St m' (σ.set id (.mpt τ (setL τ n x l))) ∧ Kp m σ m' (σ.set id (.mpt τ (setL τ n x l))) ∧ Fr m m' s := by
  obtain ⟨kt, e, a1, b1, z1, a2, b2, z2, d, a3, b3, z, k1, k2, k3, k4, k5⟩ := mapB_spec hB
  obtain ⟨g, as, q1, q2, q3⟩ := hS.obj id _ e3
  obtain ⟨o, q4, q5⟩ := hm.mp_inv (kind_mpt e3)
  rw [q1] at q4
  injection q4 with q4
  subst q4
  have q6 : m.H.ob (m.ι id).1 (m.ι id).2 = some ⟨g, MZ, as⟩ := q1
  obtain ⟨r, r1, r2⟩ := q3.find (n := n)
  rw [q1]
  simp only [Option.map_some, Option.getD_some]
  refine ⟨fun H2 e => ?_, ?_⟩
  · subst e
    simp only [putM, k1, q5, hk.int_inv, k2, q6, r1, hc, and_self, if_true]
  have hput := Heap.ob_put q6 ⟨g, MZ, setE .i64 n (ρv xo) as⟩
  obtain ⟨r1, r2, r3⟩ := set_step hS hs (o' := .mpt τ (setL τ n x l)) e3 rfl [] (by simp) [m.ι id] [] (m.H.put (m.ι id).1 (m.ι id).2 ⟨g, MZ, setE .i64 n (ρv xo) as⟩)
    (fun q hq => by simp at hq; subst hq; exact ⟨id, by simp, q2⟩) (fun q hq => by simp at hq)
    (fun t j hh => by
      rw [hput, if_neg]
      rintro ⟨rfl, rfl⟩
      exact hh id q2 (by simp))
    (fun o ho => by
      rw [q1] at ho; injection ho with ho; subst ho
      exact ⟨⟨g, MZ, setE .i64 n (ρv xo) as⟩, by rw [hput]; simp, rfl⟩)
    (fun kp => ⟨g, setE .i64 n (ρv xo) as, by simp only [MS.at, reι, if_true, hput, and_self], by simp [reι, reF], (Me.set hx hc q3).keep kp.fz⟩)
    (fun q hq => by
      rcases hq with hq | hq
      · simp at hq; subst hq; exact ⟨⟨g, MZ, setE .i64 n (ρv xo) as⟩, by rw [hput]; simp⟩
      · simp at hq)
  exact ⟨_, rfl, r1, r2, r3⟩
theorem frzV_mpt {x : V} {id : Nat} {τ : Ty} {l : List (Int × τ.den)} (h : σ[id]? = some (.mpt τ l)) : (frzV σ x)[id]? = some (.mpt τ l) := by
  unfold frzV
  split
  · rename_i id2 _ _
    split
    · rename_i t l2 u e
      by_cases hne : id2 = id
      · subst hne; rw [h] at e; cases e
      · rw [List.getElem?_set_ne hne]; exact h
    · exact h
  · exact h
theorem sl_cell {G : Nat → Nat → Prop} {H : Heap} {t : Ty} {l : List t.den} {a : AV} (h : Sh G H (.list t) l [a]) : a.isCell = true := by
  obtain ⟨b, _, e, h1, _⟩ := h
  obtain rfl : a = b := by simpa using e
  cases a <;> simp_all [isSl, AV.isCell]
theorem put_sound (hS : St m σ) (hs : m.H s = []) {t : TypeId} {mo ko xo : Operand} (hm : VT m σ (ρ mo) (ρv mo)) (hk : VT m σ (ρ ko) (ρv ko)) (hx : VT m σ (ρ xo) (ρv xo)) (h : putT P σ t (ρ mo) (ρ ko) (ρ xo) K) {op : Op} (hop : ∀ H, opE P s ρv H op = putM P H t (ρv mo) (ρv ko) (ρv xo)) : Snd P m σ s ρv op K := by
  unfold putT at h
  split at h
  · rename_i id n e1 e2
    rw [e1] at hm
    rw [e2] at hk
    split at h
    · rename_i τ l e3
      obtain ⟨hB, h⟩ := h
      obtain ⟨xs, m1, h1, eH, hS1, hK1, hF1, hsh⟩ := Rd_frz hS hs h hx
      have hs1 : m1.H s = [] := by rw [eH]; exact hs
      obtain ⟨p1, m2, p2, p3, p4, p5⟩ := put_core (P := P) (s := s) hS1 hs1 (hm.keep hK1) (hk.keep hK1) (frzV_mpt e3) hB hsh (sl_cell hsh)
      refine ⟨_, _, by rw [hop]; exact p1 m.H eH.symm, _, _, m2, by rw [p2, eH], ⟨p3, hK1.trans p4, hF1.trans p5, .undef _⟩, h1⟩
    · rename_i l e3
      obtain ⟨hB, h⟩ := h
      split at h
      · rename_i v e4
        rw [e4] at hx
        have hb : ρv xo = .bool v := hx.bool_inv
        obtain ⟨p1, m2, p2, p3, p4, p5⟩ := put_core (P := P) (s := s) (xo := xo) hS hs hm hk e3 hB (x := v) (by rw [hb]; rfl) (by rw [hb]; rfl)
        exact ⟨_, _, by rw [hop]; exact p1 m.H rfl, _, _, m2, p2, ⟨p3, p4, p5, .undef _⟩, h⟩
      · exact h.elim
    · exact h.elim
  · exact h.elim
end
end Go.Proofs.YtffiddkignmobaaDoorTv
end
