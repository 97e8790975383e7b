/- A logic of abstract values and heaps over the model's steps, proved sound: for every program that follows mixed orders. -/
import Derived.Test.YtffiddkignmobaaDoorVe5
import Derived.Deep.Matrix
import Derived.Below
set_option linter.unusedVariables false
set_option linter.unusedSimpArgs false
section
/- VE, part R: regions. -/
namespace Go.Proofs.YtffiddkignmobaaDoorVe
structure StD (ops : Array Oper) (L N : Nat) (listed : Array Bool) (x : Cx) (E : Env) (a : Act) : Prop where
  rel : Rel x
  env : EnvR x E a
  own : ∀ i ∈ left ops.size listed, x.H (L + i) = []
  free : ∀ t, L + ops.size ≤ t → x.H t = []
  size : a.tmps.size = N
  defers : a.defers = []
theorem min_of {p : Nat → Prop} : ∀ i, p i → ∃ j, p j ∧ ∀ k, k < j → ¬ p k := by
  intro i
  induction i using Nat.strongRecOn with
  | _ i ih =>
    intro hi
    by_cases h : ∃ k, k < i ∧ p k
    · obtain ⟨k, hk, hp⟩ := h
      exact ih k hk hp
    · exact ⟨i, hi, fun k hk hp => h ⟨k, hk, hp⟩⟩
theorem getD_lift {listed : Array Bool} {k : Nat} (h : listed.getD k false = true) : listed.getD k true = true := by
  rw [Array.getD_eq_getD_getElem?] at h ⊢
  cases e : listed[k]? with
  | none => rfl
  | some b => rw [e] at h; exact h
theorem getD_down {listed : Array Bool} {k : Nat} (hk : k < listed.size) (h : listed.getD k true = true) : listed.getD k false = true := by
  rw [Array.getD_eq_getD_getElem?] at h ⊢
  rw [Array.getElem?_eq_getElem hk] at h ⊢
  exact h
theorem getD_lt {listed : Array Bool} {k : Nat} (h : listed.getD k true = false) : k < listed.size := by
  rcases Nat.lt_or_ge k listed.size with h1 | h1
  · exact h1
  · simp [Array.getD_eq_getD_getElem?, Array.getElem?_eq_none h1] at h
theorem wpAny_ve {P : Program} {ops : Array Oper} {A : Nat → Nat} (hA : OkD ops A) {L N : Nat} (hb : ∀ o ∈ ops.toList, ∀ t, o.dst = some t → t < N) {Q : Exit → Act → World → Prop} :
    ∀ (fuel : Nat) (listed : Array Bool) (_ : listed.size = ops.size) (_ : (left ops.size listed).length = fuel) (_ : ∀ i j, i < ops.size → listed.getD i true = true → (A i).testBit j = true → listed.getD j true = true)
    {x : Cx} {E : Env} {a : Act} (_ : StD ops L N listed x E a) {K : Env → Heap → Prop} (_ : drawR P ops A L (left ops.size listed) E x.H K)
    (_ : ∀ y E' a', Ext x y → St N y (L + ops.size) E' a' → K E' y.H → Q .normal a' y.w), wpAny P .any ops Q fuel listed a x.w
  | 0, listed, hsz, hl, hc, x, E, a, hS, K, h, hq => by
    have e : left ops.size listed = [] := List.length_eq_zero_iff.1 hl
    have hr : Region.ready .any ops listed = [] := by
      apply List.eq_nil_iff_forall_not_mem.2
      intro i hi
      have h1 := mem_ready.1 hi
      have : i ∈ left ops.size listed := by
        simp only [left, List.mem_filter, List.mem_range]
        exact ⟨by rw [← hsz]; exact getD_lt h1.1, by simp [h1.1]⟩
      rw [e] at this; cases this
    rw [e] at h
    exact ⟨hr, hq x E a (Ext.refl x) ⟨hS.rel, hS.env, hS.free, hS.size, hS.defers⟩ h⟩
  | fuel + 1, listed, hsz, hl, hc, x, E, a, hS, K, h, hq => by
    refine ⟨fun hr => ?_, fun i hi => ?_⟩
    · exfalso
      have hne : left ops.size listed ≠ [] := fun e => by rw [e] at hl; cases hl
      obtain ⟨i, hi⟩ := List.exists_mem_of_ne_nil _ hne
      obtain ⟨j, hj, hm⟩ := min_of (p := fun i => listed.getD i true = false) i (by
        simp only [left, List.mem_filter] at hi
        simpa using hi.2)
      have hjn : j < ops.size := by rw [← hsz]; exact getD_lt hj
      have : j ∈ Region.ready .any ops listed := mem_ready.2 ⟨hj, ops[j], Array.getElem?_eq_getElem hjn, fun e he hbd => by
        have h1 := hA.lt j _ (Array.getElem?_eq_getElem hjn) e he hbd
        refine getD_down (by omega) ?_
        have := hm e.on h1
        simpa using this⟩
      rw [hr] at this; cases this
    · obtain ⟨h1, o, ho, h2⟩ := mem_ready.1 hi
      have hin : i < ops.size := by rw [← hsz]; exact getD_lt h1
      obtain ⟨l1, l2, e1, e2, e3⟩ := left_split hsz h1
      have hanc : ∀ j, (A i).testBit j = true → listed.getD j true = true := fun j hj => by
        obtain ⟨hlt, e, he, hbd, h4⟩ := hA.anc i o j ho hj
        have h5 := h2 e he hbd
        rcases h4 with rfl | h4
        · exact getD_lift h5
        · exact hc e.on j (Nat.lt_trans (hA.lt i o ho e he hbd) hin) (getD_lift h5) h4
      rw [e1] at h
      have hp := pull hA ho K l2 l1 (fun j hj => ⟨(e3 j hj).1, by
        cases h6 : (A i).testBit j with
        | false => rfl
        | true => have := hanc j h6; rw [(e3 j hj).2] at this; cases this⟩) E x.H h
      refine stepD_sound ho hS.rel hS.env (hS.own i (by rw [e1]; simp)) hS.free hS.size (hb o (by
        have := Array.mem_of_getElem? ho
        simpa using this)) hp fun y E' a' k1 k2 k3 k4 k5 k6 k7 => ?_
      rw [← e2] at k7
      refine wpAny_ve hA hb fuel _ (by simpa using hsz) (by rw [e2]; rw [e1] at hl; simp at hl ⊢; omega) (fun k j hk hl2 hj => ?_) ⟨k1, k3, fun k hk => ?_, fun t ht => k6 t (by omega) (hS.free t ht), k4, k5.trans hS.defers⟩ k7 fun z E2 a2 m1 m2 m3 => hq z E2 a2 (k2.trans m1) m2 m3
      · have hset : ∀ m, m ≠ i → (listed.setIfInBounds i true).getD m true = listed.getD m true := fun m hm => getD_set_ne true (Ne.symm hm)
        have hji : listed.getD j true = true := by
          by_cases hki : k = i
          · rw [hki] at hj; exact hanc j hj
          · rw [hset k hki] at hl2; exact hc k j hk hl2 hj
        by_cases hje : j = i
        · rw [hje, h1] at hji; cases hji
        · rw [hset j hje]; exact hji
      · rw [e2] at hk
        have hki : k ≠ i := fun c => by
          subst c
          have : (left ops.size listed).Nodup := List.Pairwise.filter _ List.nodup_range
          rw [e1] at this
          have h7 := List.nodup_append.1 this
          rcases List.mem_append.1 hk with h8 | h8
          · exact absurd rfl (h7.2.2 k h8 k (by simp))
          · exact absurd h8 (List.nodup_cons.1 h7.2.1).1
        exact k6 _ (by omega) (hS.own k (by rw [e1]; rcases List.mem_append.1 hk with h8 | h8 <;> simp [h8]))
def anc (ops : Array Oper) (i : Nat) : Nat := (Region.before ops).getD i 0
section
variable (P : Program)
def regionV (ops : Array Oper) (draw : Bool) (L : Nat) (E : Env) (H : Heap) (K : Env → Heap → Prop) : Prop :=
  if draw = true then okAll ops (anc ops) = true ∧ drawR P ops (anc ops) L (List.range ops.size) E H K else seqL P ops L 0 ops.toList E H K
end
theorem St.ext {N L : Nat} {x : Cx} {E : Env} {a : Act} (hS : St N x L E a) {w' : World} (h : w'.heap = x.w.heap) (ho : w'.os = x.w.os) (ht : w'.tape = x.w.tape) (hp : w'.output = x.w.output) : St N { x with w := w' } L E a :=
  ⟨hS.rel.world h ho ht hp, hS.env.mono (Ext.world h ho ht hp), hS.free, hS.size, hS.defers⟩
theorem region_sound {P : Program} (hm : P.follows .mixedOrders = true) {id : Nat} {ops : Array Oper} {draw : Bool} {L N : Nat} (hb : ∀ o ∈ ops.toList, ∀ t, o.dst = some t → t < N) {x : Cx} {E : Env} {a : Act} (hS : St N x L E a) {K : Env → Heap → Prop} (h : regionV P ops draw L E x.H K)
    {Q : Exit → Act → World → Prop} (hq : ∀ y E' a', Ext x y → St N y (L + ops.size) E' a' → K E' y.H → Q .normal a' y.w) : (Code.region id ops draw).wp P Q a x.w := by
  unfold regionV at h
  split at h
  · rename_i hd
    subst hd
    refine wp_region_any hm ?_
    have he : Ext x { x with w := { x.w with drawn := x.w.drawn + 1 } } := Ext.world rfl rfl rfl rfl
    have hS' := hS.ext (w' := { x.w with drawn := x.w.drawn + 1 }) rfl rfl rfl rfl
    have hl : left ops.size (Array.replicate ops.size false) = List.range ops.size := by
      unfold left
      apply List.filter_eq_self.2
      intro i hi
      simp [Array.getD_eq_getD_getElem?, List.mem_range.1 hi]
    refine wpAny_ve (okAll_spec h.1) hb ops.size _ (by simp) (by rw [hl]; simp) (fun i j hi hl2 _ => ?_) (x := { x with w := { x.w with drawn := x.w.drawn + 1 } }) ⟨hS'.rel, hS'.env, fun i _ => hS.free _ (by omega), fun t ht => hS.free t (by omega), hS.size, hS.defers⟩ (K := K) (by rw [hl]; exact h.2) fun y E' a' k1 k2 k3 => hq y E' a' (he.trans k1) k2 k3
    simp [Array.getD_eq_getD_getElem?, hi] at hl2
  · rename_i hd
    have : draw = false := by simpa using hd
    subst this
    refine wp_region ?_
    have := seqL_sound (P := P) (ops := ops) (L := L) (N := N) (Q := Q) ops.toList 0 rfl (by simp) hb (x := x) hS h hq
    rw [List.range_eq_range']
    simpa using this
end Go.Proofs.YtffiddkignmobaaDoorVe
end
section
/- VE, part S: code. -/
namespace Go.Proofs.YtffiddkignmobaaDoorVe
section
variable (P : Program)
abbrev Post := Exit → Nat → Env → Heap → Prop
def Post.seq (Q : Post) (K : Nat → Env → Heap → Prop) : Post
  | .normal, L, E, H => K L E H
  | e, L, E, H => Q e L E H
def Post.blk (Q : Post) (id : Nat) : Post
  | .exit i, L, E, H => if i = id then Q .normal L E H else Q (.exit i) L E H
  | e, L, E, H => Q e L E H
def wpV : Code → Nat → Env → Heap → Post → Prop
  | .skip, L, E, H, Q => Q .normal L E H
  | .label _, L, E, H, Q => Q .normal L E H
  | .region _ ops draw, L, E, H, Q => regionV P ops draw L E H fun E' H' => Q .normal (L + ops.size) E' H'
  | .seq a b, L, E, H, Q => wpV a L E H (Post.seq Q fun L' E' H' => wpV b L' E' H' Q)
  | .cond c t f, L, E, H, Q => ∃ b, E.ev c = .bool b ∧ if b = true then wpV t L E H Q else wpV f L E H Q
  | .block id c, L, E, H, Q => wpV c L E H (Post.blk Q id)
  | .loop c, L, E, H, Q => ∃ I : Nat → Nat → Env → Heap → Prop, (∃ n, I n L E H) ∧ ∀ n L E H, (∀ t, L ≤ t → H t = []) → I n L E H → wpV c L E H (Post.seq Q fun L' E' H' => ∃ m, m < n ∧ I m L' E' H')
  | .exit id, L, E, H, Q => Q (.exit id) L E H
  | .ret, L, E, H, Q => Q .ret L E H
  | _, _, _, _, _ => False
end
/-- All temporaries that the code writes are below N. -/
def bnd (N : Nat) : Code → Bool
  | .region _ ops _ => ops.toList.all fun o => match o.dst with
    | some t => decide (t < N)
    | none => true
  | .seq a b => bnd N a && bnd N b
  | .cond _ t f => bnd N t && bnd N f
  | .block _ c => bnd N c
  | .loop c => bnd N c
  | .skip | .label _ | .exit _ | .ret => true
  | _ => false
noncomputable def least (p : Nat → Prop) : Nat := open Classical in if h : ∃ n, p n then Classical.choose (min_of h.choose h.choose_spec) else 0
theorem least_spec {p : Nat → Prop} {n : Nat} (h : p n) : p (least p) ∧ least p ≤ n := by
  have hx : ∃ n, p n := ⟨n, h⟩
  have e : least p = Classical.choose (min_of hx.choose hx.choose_spec) := by unfold least; rw [dif_pos hx]
  have hs := Classical.choose_spec (min_of hx.choose hx.choose_spec)
  rw [← e] at hs
  exact ⟨hs.1, Nat.le_of_not_lt fun c => hs.2 n c h⟩
def okExit : Exit → Prop
  | .normal | .exit _ | .ret => True
  | _ => False
theorem wpV_sound {P : Program} (hm : P.follows .mixedOrders = true) {N : Nat} : ∀ (c : Code) (_ : bnd N c = true) {x : Cx} {L : Nat} {E : Env} {a : Act} (_ : St N x L E a) {Q : Post} (_ : wpV P c L E x.H Q)
    {R : Exit → Act → World → Prop} (_ : ∀ e y L' E' a', okExit e → Ext x y → St N y L' E' a' → Q e L' E' y.H → R e a' y.w), c.wp P R a x.w := by
  intro c
  induction c with
  | skip => intro _ x L E a hS Q h R hq; exact wp_skip (hq _ x L E a trivial (Ext.refl x) hS h)
  | label l => intro _ x L E a hS Q h R hq; exact wp_label (hq _ x L E a trivial (Ext.refl x) hS h)
  | exit l => intro _ x L E a hS Q h R hq; exact wp_exit (hq _ x L E a trivial (Ext.refl x) hS h)
  | ret => intro _ x L E a hS Q h R hq; exact wp_ret (hq _ x L E a trivial (Ext.refl x) hS h)
  | region id ops draw =>
    intro hb x L E a hS Q h R hq
    refine region_sound hm (fun o ho t ht => ?_) hS h fun y E' a' h1 h2 h3 => hq _ y _ E' a' trivial h1 h2 h3
    have := List.all_eq_true.1 hb o ho
    rw [ht] at this
    simpa using this
  | seq a b iha ihb =>
    intro hb x L E ac hS Q h R hq
    simp only [bnd, Bool.and_eq_true] at hb
    refine wp_seq (iha hb.1 hS h fun e y L' E' a' h1 h2 h3 h4 => ?_)
    cases e with
    | normal => exact ihb hb.2 h3 h4 fun e z L2 E2 a2 k1 k2 k3 k4 => hq e z L2 E2 a2 k1 (h2.trans k2) k3 k4
    | _ => exact hq _ y L' E' a' h1 h2 h3 h4
  | cond c t f iht ihf =>
    intro hb x L E ac hS Q h R hq
    simp only [bnd, Bool.and_eq_true] at hb
    obtain ⟨b, h1, h2⟩ := h
    have hv := hS.env.ev c
    rw [h1] at hv
    generalize hcv : ac.eval c = cv at hv
    cases hv
    refine wp_cond hcv ?_
    cases b with
    | true => exact iht hb.1 hS h2 hq
    | false => exact ihf hb.2 hS h2 hq
  | block id c ih =>
    intro hb x L E ac hS Q h R hq
    refine wp_block (ih hb hS h fun e y L' E' a' h1 h2 h3 h4 => ?_)
    cases e with
    | exit i =>
      simp only [Post.blk] at h4
      simp only [Exit.inBlock]
      by_cases hi : i = id
      · rw [if_pos hi] at h4 ⊢; exact hq .normal y L' E' a' trivial h2 h3 h4
      · rw [if_neg hi] at h4 ⊢; exact hq (.exit i) y L' E' a' trivial h2 h3 h4
    | _ => exact hq _ y L' E' a' h1 h2 h3 h4
  | loop c ih =>
    intro hb x L E ac hS Q h R hq
    obtain ⟨I, ⟨n, h1⟩, h2⟩ := h
    let p : Act → World → Nat → Prop := fun a w n => ∃ y L E, y.w = w ∧ Ext x y ∧ St N y L E a ∧ I n L E y.H
    refine wp_loop (fun a w => ∃ n, p a w n) (fun a w => least (p a w)) ⟨n, x, L, E, rfl, Ext.refl x, hS, h1⟩ fun a w hI => ?_
    obtain ⟨n, hn⟩ := hI
    obtain ⟨⟨y, L1, E1, rfl, k1, k2, k3⟩, _⟩ := least_spec hn
    refine ih hb k2 (h2 _ L1 E1 y.H k2.free k3) fun e z L' E' a' m1 m2 m3 m4 => ?_
    cases e with
    | normal =>
      obtain ⟨m, m5, m6⟩ := m4
      have hp : p a' z.w m := ⟨z, L', E', rfl, k1.trans m2, m3, m6⟩
      exact ⟨⟨m, hp⟩, Nat.lt_of_le_of_lt (least_spec hp).2 m5⟩
    | _ => exact hq _ z L' E' a' m1 (k1.trans m2) m3 m4
  | _ => intro hb; cases hb
end Go.Proofs.YtffiddkignmobaaDoorVe
end
section
/- VE, part T: objects that are left behind; functions. -/
namespace Go.Proofs.YtffiddkignmobaaDoorVe
mutual
def AV.ren (φ : Nat → Nat → Nat × Nat) : AV → AV
  | .sl s j g off n => .sl (φ s j).1 (φ s j).2 g off n
  | .ptr s j g off => .ptr (φ s j).1 (φ s j).2 g off
  | .mp s j g => .mp (φ s j).1 (φ s j).2 g
  | .agg cs => .agg (AV.rens φ cs)
  | .tup vs => .tup (AV.rens φ vs)
  | .fn f cs => .fn f (AV.rens φ cs)
  | .int k n => .int k n
  | .bool b => .bool b
  | .str s => .str s
  | .nil => .nil
  | .fz n cs => .fz n cs
  | .fptr cs => .fptr cs
  | .nilp => .nilp
  | .nilf => .nilf
  | .undef => .undef
def AV.rens (φ : Nat → Nat → Nat × Nat) : List AV → List AV
  | [] => []
  | c :: cs => c.ren φ :: AV.rens φ cs
end
mutual
def AV.refs (D : Nat → Nat → Prop) : AV → Prop
  | .sl s j _ _ _ => D s j
  | .ptr s j _ _ => D s j
  | .mp s j _ => D s j
  | .agg cs => AV.refss D cs
  | .tup vs => AV.refss D vs
  | .fn _ cs => AV.refss D cs
  | _ => True
def AV.refss (D : Nat → Nat → Prop) : List AV → Prop
  | [] => True
  | c :: cs => c.refs D ∧ AV.refss D cs
end
mutual
theorem AV.ren_id {φ : Nat → Nat → Nat × Nat} {D : Nat → Nat → Prop} (h : ∀ s j, D s j → φ s j = (s, j)) : ∀ a : AV, a.refs D → a.ren φ = a
  | .sl s j g off n, hr => by simp only [AV.refs] at hr; simp [AV.ren, h s j hr]
  | .ptr s j g off, hr => by simp only [AV.refs] at hr; simp [AV.ren, h s j hr]
  | .mp s j g, hr => by simp only [AV.refs] at hr; simp [AV.ren, h s j hr]
  | .agg cs, hr => by simp only [AV.refs] at hr; simp [AV.ren, AV.rens_id h cs hr]
  | .tup cs, hr => by simp only [AV.refs] at hr; simp [AV.ren, AV.rens_id h cs hr]
  | .fn f cs, hr => by simp only [AV.refs] at hr; simp [AV.ren, AV.rens_id h cs hr]
  | .int k n, _ => by simp [AV.ren]
  | .bool b, _ => by simp [AV.ren]
  | .str s, _ => by simp [AV.ren]
  | .nil, _ => by simp [AV.ren]
  | .fz n cs, _ => by simp [AV.ren]
  | .fptr cs, _ => by simp [AV.ren]
  | .nilp, _ => by simp [AV.ren]
  | .nilf, _ => by simp [AV.ren]
  | .undef, _ => by simp [AV.ren]
theorem AV.rens_id {φ : Nat → Nat → Nat × Nat} {D : Nat → Nat → Prop} (h : ∀ s j, D s j → φ s j = (s, j)) : ∀ l : List AV, AV.refss D l → AV.rens φ l = l
  | [], _ => by simp [AV.rens]
  | c :: cs, hr => by simp only [AV.refss] at hr; simp [AV.rens, AV.ren_id h c hr.1, AV.rens_id h cs hr.2]
end
theorem AV.rens_map (φ : Nat → Nat → Nat × Nat) : ∀ l, AV.rens φ l = l.map (AV.ren φ)
  | [] => by simp [AV.rens]
  | c :: cs => by simp [AV.rens, AV.rens_map φ cs]
theorem AV.refss_all {D : Nat → Nat → Prop} : ∀ {l : List AV}, AV.refss D l ↔ ∀ a ∈ l, a.refs D
  | [] => by simp [AV.refss]
  | c :: cs => by simp [AV.refss, AV.refss_all (l := cs)]
theorem AV.ren_isCell (φ : Nat → Nat → Nat × Nat) (a : AV) : (a.ren φ).isCell = a.isCell := by cases a <;> simp [AV.ren, AV.isCell]
mutual
theorem AV.refs_mono {D D' : Nat → Nat → Prop} (h : ∀ s j, D s j → D' s j) : ∀ a : AV, a.refs D → a.refs D'
  | .sl s j g off n, hr => by simp only [AV.refs] at hr ⊢; exact h _ _ hr
  | .ptr s j g off, hr => by simp only [AV.refs] at hr ⊢; exact h _ _ hr
  | .mp s j g, hr => by simp only [AV.refs] at hr ⊢; exact h _ _ hr
  | .agg cs, hr => by simp only [AV.refs] at hr ⊢; exact AV.refss_mono h cs hr
  | .tup cs, hr => by simp only [AV.refs] at hr ⊢; exact AV.refss_mono h cs hr
  | .fn f cs, hr => by simp only [AV.refs] at hr ⊢; exact AV.refss_mono h cs hr
  | .int k n, _ => by simp [AV.refs]
  | .bool b, _ => by simp [AV.refs]
  | .str s, _ => by simp [AV.refs]
  | .nil, _ => by simp [AV.refs]
  | .fz n cs, _ => by simp [AV.refs]
  | .fptr cs, _ => by simp [AV.refs]
  | .nilp, _ => by simp [AV.refs]
  | .nilf, _ => by simp [AV.refs]
  | .undef, _ => by simp [AV.refs]
theorem AV.refss_mono {D D' : Nat → Nat → Prop} (h : ∀ s j, D s j → D' s j) : ∀ l : List AV, AV.refss D l → AV.refss D' l
  | [], _ => by simp [AV.refss]
  | c :: cs, hr => by simp only [AV.refss] at hr ⊢; exact ⟨AV.refs_mono h c hr.1, AV.refss_mono h cs hr.2⟩
end
/-- H2 holds the live objects D of H under new names φ. -/
structure Reloc (H : Heap) (φ : Nat → Nat → Nat × Nat) (D : Nat → Nat → Prop) (H2 : Heap) : Prop where
  fwd : ∀ s j o, D s j → H.ob s j = some o → H2.ob (φ s j).1 (φ s j).2 = some ⟨o.g, o.z, AV.rens φ o.cells⟩
  bwd : ∀ s j o, H2.ob s j = some o → ∃ s0 j0 o0, D s0 j0 ∧ H.ob s0 j0 = some o0 ∧ φ s0 j0 = (s, j)
  inj : ∀ s j s' j', D s j → D s' j' → φ s j = φ s' j' → s = s' ∧ j = j'
  clo : ∀ s j o, D s j → H.ob s j = some o → AV.refss D o.cells
open Classical in
noncomputable def rebase (β : Bt) (φ : Nat → Nat → Nat × Nat) (D : Nat → Nat → Prop) : Bt := fun s j =>
  if h : ∃ q : Nat × Nat, D q.1 q.2 ∧ φ q.1 q.2 = (s, j) then β h.choose.1 h.choose.2 else (0, 0)
section
variable {y : Cx} {φ : Nat → Nat → Nat × Nat} {D : Nat → Nat → Prop} {H2 : Heap}
theorem rebase_eq (h : Reloc y.H φ D H2) {s j : Nat} (hd : D s j) : rebase y.β φ D (φ s j).1 (φ s j).2 = y.β s j := by
  have hx : ∃ q : Nat × Nat, D q.1 q.2 ∧ φ q.1 q.2 = ((φ s j).1, (φ s j).2) := ⟨(s, j), hd, rfl⟩
  unfold rebase
  rw [dif_pos hx]
  have := h.inj _ _ s j hx.choose_spec.1 hd hx.choose_spec.2
  rw [this.1, this.2]
noncomputable def Reloc.cx (_ : Reloc y.H φ D H2) : Cx := ⟨y.w, y.Z, rebase y.β φ D, H2⟩
mutual
theorem Reloc.vr (h : Reloc y.H φ D H2) : ∀ {a : AV} {v : Value}, VR y a v → a.refs D → VR h.cx (a.ren φ) v
  | _, _, .int k n, _ => by simp only [AV.ren]; exact .int k n
  | _, _, .bool b, _ => by simp only [AV.ren]; exact .bool b
  | _, _, .str s, _ => by simp only [AV.ren]; exact .str s
  | _, _, .nil, _ => by simp only [AV.ren]; exact .nil
  | _, _, .fz n cs v h1, _ => by simp only [AV.ren]; exact .fz n cs v h1
  | _, _, .sl s j g off n cap a o h1 h2 h3 h4, hr => by
    simp only [AV.refs] at hr
    simp only [AV.ren]
    refine .sl _ _ g off n cap a _ (h.fwd s j o hr h1) h2 h3 fun e => ?_
    obtain ⟨p, c, e', k1, k2, k3, k4⟩ := h4 e
    exact ⟨p, c, e', by simpa [Reloc.cx, rebase_eq h hr] using k1, by simpa [Reloc.cx, rebase_eq h hr] using k2, k3, by simpa [Reloc.cx, rebase_eq h hr] using k4⟩
  | _, _, .ptr s j g off a o h1 h2 h3, hr => by
    simp only [AV.refs] at hr
    simp only [AV.ren]
    exact .ptr _ _ g off a _ (h.fwd s j o hr h1) h2 fun e => by simpa [Reloc.cx, rebase_eq h hr] using h3 e
  | _, _, .mp s j g b o h1 h2 h3, hr => by
    simp only [AV.refs] at hr
    simp only [AV.ren]
    exact .mp _ _ g b _ (h.fwd s j o hr h1) h2 fun e => by simpa [Reloc.cx, rebase_eq h hr] using h3 e
  | _, _, .fptr b off cs vs h1 h2 h3, _ => by simp only [AV.ren]; exact .fptr b off cs vs h1 h2 h3
  | _, _, .nilp, _ => by simp only [AV.ren]; exact .nilp
  | _, _, .agg cs vs h1, hr => by simp only [AV.refs] at hr; simp only [AV.ren]; exact .agg _ vs (Reloc.vrs h h1 hr)
  | _, _, .tup cs vs h1, hr => by simp only [AV.refs] at hr; simp only [AV.ren]; exact .tup _ vs (Reloc.vrs h h1 hr)
  | _, _, .fn f cs vs h1, hr => by simp only [AV.refs] at hr; simp only [AV.ren]; exact .fn f _ vs (Reloc.vrs h h1 hr)
  | _, _, .nilf, _ => by simp only [AV.ren]; exact .nilf
  | _, _, .undef v, _ => by simp only [AV.ren]; exact .undef v
theorem Reloc.vrs (h : Reloc y.H φ D H2) : ∀ {a : List AV} {v : List Value}, VRL y a v → AV.refss D a → VRL h.cx (AV.rens φ a) v
  | _, _, .nil, _ => by simp only [AV.rens]; exact .nil
  | _, _, .cons c cs v vs h1 h2, hr => by simp only [AV.refss] at hr; simp only [AV.rens]; exact .cons _ _ v vs (Reloc.vr h h1 hr.1) (Reloc.vrs h h2 hr.2)
end
theorem Reloc.er (h : Reloc y.H φ D H2) : ∀ {cs : List AV} {es : List MapEntry}, ER y cs es → AV.refss D cs → ER h.cx (AV.rens φ cs) es
  | _, _, .nil, _ => by simp only [AV.rens]; exact .nil
  | _, _, .cons k n a cs e es h1 h2 h3 h4, hr => by
    simp only [AV.refss] at hr
    simp only [AV.rens, AV.ren]
    exact .cons k n _ _ e es h1 (by rw [AV.ren_isCell]; exact h2) (h.vr h3 hr.2.1) (Reloc.er h h4 hr.2.2)
theorem Reloc.of_ob (h : Reloc y.H φ D H2) {s j : Nat} {o : Ob} (ho : H2.ob s j = some o) : ∃ s0 j0 o0, D s0 j0 ∧ y.H.ob s0 j0 = some o0 ∧ φ s0 j0 = (s, j) ∧ o = ⟨o0.g, o0.z, AV.rens φ o0.cells⟩ ∧ rebase y.β φ D s j = y.β s0 j0 := by
  obtain ⟨s0, j0, o0, h1, h2, h3⟩ := h.bwd s j o ho
  have h4 := h.fwd s0 j0 o0 h1 h2
  have h5 := rebase_eq h h1
  rw [h3] at h4 h5
  exact ⟨s0, j0, o0, h1, h2, h3, by simpa [ho] using h4, h5⟩
theorem Reloc.rel (h : Reloc y.H φ D H2) (hR : Rel y) : Rel h.cx where
  obj := fun s j o ho => by
    obtain ⟨s0, j0, o0, h1, h2, h3, rfl, h5⟩ := h.of_ob ho
    rcases hR.obj s0 j0 o0 h2 with ⟨k0, es, cl, k1, k2⟩ | ⟨k0, c, e, k1, k2, k3⟩
    · refine .inl ⟨k0, es, cl, by simpa only [Reloc.cx, h5] using k1, ?_⟩
      rw [AV.rens_map, ← AV.rens_map]
      exact h.er k2 (h.clo s0 j0 o0 h1 h2)
    simp only [Reloc.cx, h5]
    refine .inr ⟨k0, c, e, k1, by simpa [AV.rens_map] using k2, fun i a ha => ?_⟩
    simp only [AV.rens_map, List.getElem?_map, Option.map_eq_some_iff] at ha
    obtain ⟨b, hb, rfl⟩ := ha
    obtain ⟨m1, v, m2, m3⟩ := k3 i b hb
    exact ⟨by rw [AV.ren_isCell]; exact m1, v, m2, h.vr m3 (AV.refss_all.1 (h.clo s0 j0 o0 h1 h2) b (List.mem_of_getElem? hb))⟩
  inj := fun s j o s' j' o' ho ho' e => by
    obtain ⟨s0, j0, o0, h1, h2, h3, _, h5⟩ := h.of_ob ho
    obtain ⟨s1, j1, o1, k1, k2, k3, _, k5⟩ := h.of_ob ho'
    simp only [Reloc.cx, h5, k5] at e
    obtain ⟨rfl, rfl⟩ := hR.inj s0 j0 o0 s1 j1 o1 h2 k2 e
    rw [h3] at k3
    injection k3 with a b
    exact ⟨a, b⟩
  sep := fun s j o ho => by
    obtain ⟨s0, j0, o0, h1, h2, h3, _, h5⟩ := h.of_ob ho
    simp only [Reloc.cx, h5]
    exact hR.sep s0 j0 o0 h2
  zlt := hR.zlt
  side := hR.side
  sideZ := hR.sideZ
theorem Reloc.ext (h : Reloc y.H φ D H2) {x : Cx} (hx : Ext x y) (hD : ∀ s j o, x.H.ob s j = some o → D s j ∧ φ s j = (s, j)) : Ext x h.cx where
  z := hx.z
  o := fun s j o ho => by
    obtain ⟨o', h1, h2, h3⟩ := hx.o s j o ho
    obtain ⟨d1, d2⟩ := hD s j o ho
    have h4 := h.fwd s j o' d1 h1
    have h5 := rebase_eq h d1
    rw [d2] at h4 h5
    refine ⟨_, h4, h2, fun e => ?_⟩
    obtain ⟨k1, k2, k3⟩ := h3 e
    exact ⟨k1, h5.trans k2, k3⟩
  keep := hx.keep
  blk := fun s j o ho => by
    obtain ⟨s0, j0, o0, h1, h2, h3, _, h5⟩ := h.of_ob ho
    simp only [Reloc.cx, h5]
    exact hx.blk s0 j0 o0 h2
  os := hx.os
  tape := hx.tape
  output := hx.output
  size := hx.size
end
end Go.Proofs.YtffiddkignmobaaDoorVe
end
section
/- VE, part U: functions. -/
namespace Go.Proofs.YtffiddkignmobaaDoorVe
def own (H : Heap) (s j : Nat) : Prop := ∃ o, H.ob s j = some o
mutual
theorem VR.refs {x : Cx} : ∀ {a : AV} {v : Value}, VR x a v → a.refs (own x.H)
  | _, _, .int k n => by simp only [AV.refs]
  | _, _, .bool b => by simp only [AV.refs]
  | _, _, .str s => by simp only [AV.refs]
  | _, _, .nil => by simp only [AV.refs]
  | _, _, .fz n cs v h1 => by simp only [AV.refs]
  | _, _, .sl s j g off n cap a o h1 h2 h3 h4 => by simp only [AV.refs]; exact ⟨o, h1⟩
  | _, _, .ptr s j g off a o h1 h2 h3 => by simp only [AV.refs]; exact ⟨o, h1⟩
  | _, _, .mp s j g b o h1 h2 h3 => by simp only [AV.refs]; exact ⟨o, h1⟩
  | _, _, .fptr b off cs vs h1 h2 h3 => by simp only [AV.refs]
  | _, _, .nilp => by simp only [AV.refs]
  | _, _, .agg cs vs h1 => by simp only [AV.refs]; exact VRL.refss h1
  | _, _, .tup cs vs h1 => by simp only [AV.refs]; exact VRL.refss h1
  | _, _, .fn f cs vs h1 => by simp only [AV.refs]; exact VRL.refss h1
  | _, _, .nilf => by simp only [AV.refs]
  | _, _, .undef v => by simp only [AV.refs]
theorem VRL.refss {x : Cx} : ∀ {a : List AV} {v : List Value}, VRL x a v → AV.refss (own x.H) a
  | _, _, .nil => by simp only [AV.refss]
  | _, _, .cons c cs v vs h1 h2 => by simp only [AV.refss]; exact ⟨VR.refs h1, VRL.refss h2⟩
end
theorem ER.refss {x : Cx} : ∀ {cs : List AV} {es : List MapEntry}, ER x cs es → AV.refss (own x.H) cs
  | _, _, .nil => by simp only [AV.refss]
  | _, _, .cons k n a cs e es h1 h2 h3 h4 => by simp only [AV.refss, AV.refs]; exact ⟨trivial, VR.refs h3, ER.refss h4⟩
theorem Rel.clo {x : Cx} (hR : Rel x) {s j : Nat} {o : Ob} (ho : x.H.ob s j = some o) : AV.refss (own x.H) o.cells := by
  rcases hR.obj s j o ho with ⟨_, es, cl, _, h3⟩ | ⟨_, c, e, _, _, h3⟩
  · exact h3.refss
  refine AV.refss_all.2 fun a ha => ?_
  obtain ⟨i, hi⟩ := List.mem_iff_getElem?.1 ha
  obtain ⟨_, v, _, hv⟩ := h3 i a hi
  exact hv.refs
section
variable (P : Program)
def res1 (E : Env) (H : Heap) : ResultVar → Option AV
  | .tmp t => some (E t)
  | .cell a t => (opE P 0 E.ev H (.load t (.tmp a))).map (·.1)
def resL (E : Env) (H : Heap) : List ResultVar → Option (List AV)
  | [] => some []
  | r :: l => match res1 P E H r, resL E H l with
    | some a, some as => some (a :: as)
    | _, _ => none
def resA (l : Array ResultVar) (E : Env) (H : Heap) : Option AV := match resL P E H l.toList with
  | some [a] => some a
  | some l => some (.tup l)
  | none => none
end
theorem res1_run {P : Program} {x : Cx} (hR : Rel x) {E : Env} {a : Act} (hE : EnvR x E a) {r : ResultVar} {v : AV} (h : res1 P E x.H r = some v) :
    ∃ u, ((match r with
      | .tmp t => pure (a.tmps.getD t undef)
      | .cell b t => do loadVar t (← asAddr (a.tmps.getD b undef)) : Sem Value)).run P x.w = .ok u x.w ∧ VR x v u := by
  cases r with
  | tmp t =>
    simp only [res1, Option.some.injEq] at h
    subst h
    exact ⟨_, rfl, hE t⟩
  | cell b t =>
    simp only [res1, opE] at h
    have hb := hE b
    split at h
    · rename_i T hT
      split at h
      · rename_i cs hl
        simp only [Env.ev] at hl
        have key : ∀ {u : Value} {m : Sem Value}, VR x (E b) u → (∃ ad, u = .pointer (some ad)) := by
          intro u m hu
          generalize E b = eb at hl hu
          cases hu <;> simp [loadA] at hl <;> exact ⟨_, rfl⟩
        obtain ⟨ad, had⟩ := key (m := pure undef) hb
        have hrun : ((do loadVar t (← asAddr (a.tmps.getD b undef)) : Sem Value)).run P x.w = (Instr.loadAt t (a.tmps.getD b undef)).run P x.w := by
          rw [had]
          rfl
        rw [hrun]
        split at h
        · rename_i hg
          simp only [Option.map_some, Option.some.injEq] at h
          subst h
          obtain ⟨r, h1, h2⟩ := op_load_agg hR hb hT hl hg
          exact ⟨r, h1, h2⟩
        · rename_i hg
          split at h
          · simp only [Option.map_some, Option.some.injEq] at h
            subst h
            obtain ⟨r, h1, h2⟩ := op_load_one hR hb hT hl hg
            exact ⟨r, h1, h2⟩
          · cases h
      · cases h
    · cases h
theorem resL_run {P : Program} {x : Cx} (hR : Rel x) {E : Env} {a : Act} (hE : EnvR x E a) (f : ResultVar → Sem Value) (hf : ∀ r, f r = match r with
      | .tmp t => pure (a.tmps.getD t undef)
      | .cell b t => do loadVar t (← asAddr (a.tmps.getD b undef))) : ∀ (l : List ResultVar) {vs : List AV}, resL P E x.H l = some vs → ∃ us, (l.mapM f).run P x.w = .ok us x.w ∧ VRL x vs us
  | [], vs, h => by
    simp only [resL, Option.some.injEq] at h
    subst h
    exact ⟨[], rfl, .nil⟩
  | r :: l, vs, h => by
    simp only [resL] at h
    split at h
    · rename_i v vs' h1 h2
      simp only [Option.some.injEq] at h
      subst h
      obtain ⟨u, k1, k2⟩ := res1_run hR hE h1
      obtain ⟨us, k3, k4⟩ := resL_run hR hE f hf l h2
      refine ⟨u :: us, ?_, .cons _ _ _ _ k2 k4⟩
      rw [List.mapM_cons, run_bind, hf r, k1]
      simp only [run_bind, k3, run_pure]
    · cases h
theorem resA_run {P : Program} {x : Cx} (hR : Rel x) {E : Env} {a : Act} (hE : EnvR x E a) {fn : Func} {v : AV} (h : resA P fn.results E x.H = some v) : ∃ u, (results fn a.tmps).run P x.w = .ok u x.w ∧ VR x v u := by
  unfold resA at h
  have key : ∀ {vs : List AV}, resL P E x.H fn.results.toList = some vs → ∃ us, (results fn a.tmps).run P x.w = .ok (if h : us.toArray.size = 1 then us.toArray[0] else .tuple us.toArray) x.w ∧ VRL x vs us := fun hl => by
    obtain ⟨us, h1, h2⟩ := resL_run hR hE (fun r => match r with
      | .tmp t => pure (a.tmps.getD t undef)
      | .cell b t => do loadVar t (← asAddr (a.tmps.getD b undef))) (fun r => rfl) _ hl
    refine ⟨us, ?_, h2⟩
    unfold results
    rw [Array.mapM_eq_mapM_toList]
    simp only [map_eq_pure_bind, run_bind, run_pure]
    generalize hg : Sem.run P (List.mapM _ fn.results.toList) x.w = g
    have e : g = .ok us x.w := hg.symm.trans h1
    rw [e]
  split at h
  · rename_i b hl
    simp only [Option.some.injEq] at h
    subst h
    obtain ⟨us, h1, h2⟩ := key hl
    cases h2 with
    | cons _ _ u us k1 k2 =>
      cases k2
      exact ⟨u, by simpa using h1, k1⟩
  · rename_i l hne hl
    simp only [Option.some.injEq] at h
    subst h
    obtain ⟨us, h1, h2⟩ := key hl
    have : ¬ us.length = 1 := fun c => by
      rw [← h2.length] at c
      match l, c with
      | [b], _ => exact hne b rfl
    refine ⟨.tuple us.toArray, by simpa [this] using h1, .tup _ _ h2⟩
  · cases h
def env0 (args : List AV) : Env := fun t => args[t]?.getD .undef
theorem env0_rel {x : Cx} {args : List AV} {vals : List Value} (h : VRL x args vals) (n : Nat) : EnvR x (env0 args) { tmps := vals.toArray ++ Array.replicate n undef, defers := [] } := by
  intro t
  unfold env0
  cases e : args[t]? with
  | none => exact .undef _
  | some b =>
    obtain ⟨u, h1, h2⟩ := h.get e
    have h3 : t < vals.length := (List.getElem?_eq_some_iff.1 h1).1
    have : (vals.toArray ++ Array.replicate n undef).getD t undef = u := by
      rw [Array.getD_eq_getD_getElem?, Array.getElem?_append_left (by simpa using h3)]
      simp [h1]
    rw [this]; exact h2
/-- The state at the end of a body, and what the caller is told. -/
def Fin (H : Heap) (s : Nat) (r : AV) (H' : Heap) (R : AV → Heap → Prop) : Prop :=
  ∃ φ D H2, Reloc H' φ D H2 ∧ (∀ t i o, H.ob t i = some o → D t i ∧ φ t i = (t, i)) ∧ r.refs D ∧ (∀ t, t ≠ s → H t = [] → H2 t = []) ∧ R (r.ren φ) H2
theorem callV_of {P : Program} {f : Nat} {fn : Func} {c : Code} {args : List AV} {H : Heap} {s : Nat} {R : AV → Heap → Prop} (hm : P.follows .mixedOrders = true) (hf : P.funcs[f]? = some fn) (hc : fn.body = some c) (hnm : (fn.name == "runtime.NumGoroutine") = false)
    (hb : bnd fn.ntmps c = true) (hn : args.length ≤ fn.ntmps)
    (h : ∀ M, s < M → (∀ t, M ≤ t → H t = []) → H s = [] → AV.refss (own H) args → (∀ t i o, H.ob t i = some o → AV.refss (own H) o.cells) →
      wpV P c M (env0 args) H fun e _ E' H' => (e = .normal ∨ e = .ret) ∧ ∃ r, resA P fn.results E' H' = some r ∧ Fin H s r H' R) : CallV P f args H s R := by
  refine ⟨fun as w => ?_, fun x vals M hR hH hs hM hfr hv => ?_⟩
  · have hne : fn.name ≠ "runtime.NumGoroutine" := by simpa using hnm
    simp [callFunc, run_bind, program, Sem.run, hf, hne, hc, run_pure]
  · subst hH
    refine calls_of_wp hf hc ?_
    have hl := hv.length
    refine wpV_sound hm (N := fn.ntmps) c hb (L := M) (E := env0 args) ⟨hR, env0_rel hv _, hfr, by simp; omega, rfl⟩ (h M hM hfr hs hv.refss fun t i o ho => hR.clo ho) fun e y L' E' a' h1 h2 h3 h4 => ?_
    obtain ⟨he, r, h5, φ, D, H2, k1, k2, k3, k4, k5⟩ := h4
    obtain ⟨u, m1, m2⟩ := resA_run h3.rel h3.env h5
    have fin : a'.defers = [] ∧ ∃ v, (results fn a'.tmps).run P y.w = .ok v y.w ∧ ∃ v' z av, Ending.returned v = .returned v' ∧ z.w = y.w ∧ Rel z ∧ Ext x z ∧ VR z av v' ∧ (∀ t, t ≠ s → x.H t = [] → z.H t = []) ∧ R av z.H :=
      ⟨h3.defers, u, m1, u, k1.cx, r.ren φ, rfl, rfl, k1.rel h3.rel, k1.ext h2 k2, k1.vr m2 k3, k4, k5⟩
    rcases he with rfl | rfl <;> exact fin
end Go.Proofs.YtffiddkignmobaaDoorVe
end
section
/- VE, part V: how a function ends; words for walking. -/
namespace Go.Proofs.YtffiddkignmobaaDoorVe
theorem own_lt {H : Heap} {M : Nat} (hM : ∀ t, M ≤ t → H t = []) {s j : Nat} (h : own H s j) : s < M := by
  obtain ⟨o, ho⟩ := h
  rcases Nat.lt_or_ge s M with h1 | h1
  · exact h1
  · simp [Heap.ob, hM s h1] at ho
theorem ob_lt {H : Heap} {M : Nat} (hM : ∀ t, M ≤ t → H t = []) {s j : Nat} {o : Ob} (h : H.ob s j = some o) : s < M := own_lt hM ⟨o, h⟩
/-- The caller's objects are as they were, and the result holds none but them. -/
theorem fin_pure {H H' : Heap} {s : Nat} {r : AV} {R : AV → Heap → Prop} (hclo : ∀ t i o, H.ob t i = some o → AV.refss (own H) o.cells) (hH : ∀ t i o, H.ob t i = some o → H'.ob t i = some o) (hr : r.refs (own H)) (h : R r H) : Fin H s r H' R := by
  refine ⟨fun t i => (t, i), own H, H, ⟨fun t i o hd ho => ?_, fun t i o ho => ⟨t, i, o, ⟨o, ho⟩, hH t i o ho, rfl⟩, fun t i t' i' _ _ e => ?_, fun t i o hd ho => ?_⟩, fun t i o ho => ⟨⟨o, ho⟩, rfl⟩, hr, fun t _ e => e, ?_⟩
  · obtain ⟨o', ho'⟩ := hd
    have e := hH t i o' ho'
    rw [ho] at e
    injection e with e
    subst e
    rw [AV.rens_id (fun _ _ _ => rfl) _ (hclo t i o ho')]
    exact ho'
  · injection e with a b; exact ⟨a, b⟩
  · obtain ⟨o', ho'⟩ := hd
    have e := hH t i o' ho'
    rw [ho] at e
    injection e with e
    subst e
    exact hclo t i o ho'
  · rw [AV.ren_id (fun _ _ _ => rfl) r hr]; exact h
/-- What a whole call out of a bare heap gives in the world. -/
theorem calls_bare {P : Program} {f : Nat} {args : List AV} {R : AV → Heap → Prop} (h : CallV P f args (fun _ => []) 0 R) {w : World} {Z : Nat → Prop} (hZ : ∀ k, Z k → k < w.heap.size) (hs : sideT w) (hsZ : ∀ k, k < sideB → Z k) {vals : List Value} (hv : VRL ⟨w, Z, fun _ _ => (0, 0), fun _ => []⟩ args vals) :
    Calls P f vals.toArray w fun e w' => Go.RowKit.Below w.heap.size w w' ∧ ∃ v y av, e = .returned v ∧ y.w = w' ∧ Rel y ∧ VR y av v ∧ R av y.H := by
  have hob : ∀ s j o, Heap.ob (fun _ => []) s j = some o → False := fun s j o h => by simp [Heap.ob] at h
  refine Calls.mono (h.2 ⟨w, Z, fun _ _ => (0, 0), fun _ => []⟩ vals 1 ⟨fun s j o h => (hob s j o h).elim, fun s j o _ _ _ h => (hob s j o h).elim, fun s j o h => (hob s j o h).elim, hZ, hs, hsZ⟩ rfl rfl (by omega) (fun _ _ => rfl) hv) ?_
  rintro e w' ⟨v, y, av, rfl, rfl, h1, h2, h3, _, h4⟩
  exact ⟨⟨h2.os, h2.tape, h2.output, h2.size, fun k hk => h2.keep k hk fun s j o h => (hob s j o h).elim⟩, v, y, av, rfl, rfl, h1, h3, h4⟩
/-- A law's call, out of frozen data. -/
theorem calls_law {P : Program} {f : Nat} {ts : List FT} (h : CallV P f (FT.avs ts) (fun _ => []) 0 fun v _ => v = .bool true) {w : World} {Z : Nat → Prop} (hZ : ∀ k, Z k → k < w.heap.size) (hs : sideT w) (hsZ : ∀ k, k < sideB → Z k) {vals : List Value} (hv : FRL w Z ts vals) :
    Calls P f vals.toArray w fun e w' => e = .returned (.bool true) ∧ Go.RowKit.Below w.heap.size w w' := by
  refine Calls.mono (calls_bare h hZ hs hsZ (FRL.vrl (x := ⟨w, Z, fun _ _ => (0, 0), fun _ => []⟩) hv)) ?_
  rintro e w' ⟨h1, v, y, av, rfl, rfl, _, h3, rfl⟩
  cases h3
  exact ⟨rfl, h1⟩
end Go.Proofs.YtffiddkignmobaaDoorVe
end
section
/- VE, part W: rules for walking, one operation a turn. -/
namespace Go.Proofs.YtffiddkignmobaaDoorVe
section
variable {P : Program} {ops : Array Oper} {L i s : Nat} {E : Env} {H H' : Heap} {K : Env → Heap → Prop} {K' : AV → Heap → Prop} {Q : Post}
theorem w_skip {L : Nat} (h : Q .normal L E H) : wpV P .skip L E H Q := by rw [wpV]; exact h
theorem w_region {id : Nat} {L : Nat} (h : seqL P ops L 0 ops.toList E H fun E' H' => Q .normal (L + ops.size) E' H') : wpV P (.region id ops false) L E H Q := by rw [wpV]; simpa [regionV] using h
theorem w_draw {id : Nat} {L : Nat} (ha : okAll ops (anc ops) = true) (h : drawR P ops (anc ops) L (List.range ops.size) E H fun E' H' => Q .normal (L + ops.size) E' H') : wpV P (.region id ops true) L E H Q := by rw [wpV]; simpa [regionV, ha] using h
theorem w_seq {a b : Code} {L : Nat} (h : wpV P a L E H (Post.seq Q fun L' E' H' => wpV P b L' E' H' Q)) : wpV P (.seq a b) L E H Q := by rw [wpV]; exact h
theorem w_cond {c : Operand} {a b : Code} {L : Nat} {x : Bool} (hc : E.ev c = .bool x) (h1 : x = true → wpV P a L E H Q) (h2 : x = false → wpV P b L E H Q) : wpV P (.cond c a b) L E H Q := by
  rw [wpV]
  refine ⟨x, hc, ?_⟩
  cases x with
  | true => exact h1 rfl
  | false => exact h2 rfl
theorem w_block {id : Nat} {c : Code} {L : Nat} (h : wpV P c L E H (Post.blk Q id)) : wpV P (.block id c) L E H Q := by rw [wpV]; exact h
theorem w_exit {id : Nat} {L : Nat} (h : Q (.exit id) L E H) : wpV P (.exit id) L E H Q := by rw [wpV]; exact h
theorem w_ret {L : Nat} (h : Q .ret L E H) : wpV P .ret L E H Q := by rw [wpV]; exact h
theorem w_loop {c : Code} {L : Nat} (I : Nat → Nat → Env → Heap → Prop) (n : Nat) (h0 : I n L E H) (h : ∀ n L E H, (∀ t, L ≤ t → H t = []) → I n L E H → wpV P c L E H (Post.seq Q fun L' E' H' => ∃ m, m < n ∧ I m L' E' H')) : wpV P (.loop c) L E H Q := by
  rw [wpV]; exact ⟨I, ⟨n, h0⟩, h⟩
end
end Go.Proofs.YtffiddkignmobaaDoorVe
end
section
/- VE, part X: rows that are read; rules for drawn regions that leave the heap alone. -/
namespace Go.Proofs.YtffiddkignmobaaDoorVe
def isSl : AV → Bool
  | .nil | .fz _ _ | .sl _ _ _ _ _ => true
  | _ => false
/-- A slice of n elements of z cells each, and its cells. -/
structure Row (H : Heap) (z : Nat) (a : AV) (n : Nat) (cells : List AV) : Prop where
  sl : isSl a = true
  len : lenA a = some n
  row : rowA H z a = some cells
  size : cells.length = n * z
theorem wrap64 {a : Int} (h : -9223372036854775808 ≤ a ∧ a ≤ 9223372036854775807) : IntKind.wrap .i64 a = a := by
  unfold IntKind.wrap
  simp [IntKind.signed, IntKind.bits]
  omega
section
variable {P : Program} {s : Nat} {E : Env} {H : Heap}
end
section
variable {P : Program} {ops : Array Oper} {L i s : Nat} {E : Env} {H H' : Heap} {K : Env → Heap → Prop} {K' : AV → Heap → Prop} {Q : Post} {A : Nat → Nat}
def stepO (P : Program) (ops : Array Oper) (A : Nat → Nat) (L i : Nat) (o : Oper) (E : Env) (H : Heap) (K : Env → Heap → Prop) : Prop := match guardA ops E o with
  | some true => if (quiet o.op && !soloB A ops.size i) = true then QR P (late ops A i, lateS ops A i) L i (A i) E H o fun v obs => K (E.put o.dst v) (H.add (L + i) obs)
    else zSt (earlyB A i) (stB ops o.op) E H o.op ∧ stepV P (L + i) E H o fun v H' => K (E.put o.dst v) H'
  | some false => K (E.put o.dst (.tup [])) H
  | none => False
theorem stepO_D {o : Oper} (ho : ops[i]? = some o) {K : Env → Heap → Prop} : stepO P ops A L i o E H K = stepD P ops A L i E H K := by
  simp only [stepD, ho]; rfl
/-- A drawn region, by the list of its operations. -/
def drawL (P : Program) (ops : Array Oper) (A : Nat → Nat) (L : Nat) : Nat → List Oper → Env → Heap → (Env → Heap → Prop) → Prop
  | _, [], E, H, K => K E H
  | i, o :: rest, E, H, K => stepO P ops A L i o E H fun E H => drawL P ops A L (i + 1) rest E H K
theorem drawL_range : ∀ (l : List Oper) (i : Nat) (_ : ops.toList.drop i = l) (E : Env) (H : Heap), drawL P ops A L i l E H K → drawR P ops A L (List.range' i l.length) E H K
  | [], i, _, E, H, h => h
  | o :: l, i, hl, E, H, h => by
    have ho : ops[i]? = some o := by
      have := congrArg (fun l => l[0]?) hl
      simpa using this
    have hr : ops.toList.drop (i + 1) = l := by
      have := congrArg (fun l => l.drop 1) hl
      simpa [List.drop_drop, Nat.add_comm] using this
    simp only [List.length_cons, List.range'_succ, drawR]
    simp only [drawL] at h
    rw [stepO_D ho] at h
    exact stepD_mono (fun E H h => drawL_range l (i + 1) hr E H h) h
theorem w_drawn {id : Nat} {L : Nat} (ha : okAll ops (anc ops) = true) (h : drawL P ops (anc ops) L 0 ops.toList E H fun E' H' => Q .normal (L + ops.size) E' H') : wpV P (.region id ops true) L E H Q := by
  refine w_draw ha ?_
  have := drawL_range _ 0 rfl _ _ h
  rw [List.range_eq_range']
  simpa using this
end
end Go.Proofs.YtffiddkignmobaaDoorVe
end
section
/- VE, part Y: rows of whole numbers, rows of such rows; comparisons. -/
namespace Go.Proofs.YtffiddkignmobaaDoorVe
/-- The value at a place of a list of whole numbers. -/
def rd (l : List Int) (i : Int) : Int := l.getD i.toNat 0
def rdR (l : List (List Int)) (i : Int) : List Int := l.getD i.toNat []
abbrev AV.i (n : Int) : AV := .int .i64 n
structure Ints (H : Heap) (a : AV) (l : List Int) : Prop where
  row : Row H 1 a l.length (l.map AV.i)
  size : (l.length : Int) ≤ 140737488355328
structure Rows (H : Heap) (a : AV) (ll : List (List Int)) : Prop where
  row : ∃ cells, Row H 1 a ll.length cells ∧ ∀ (i : Nat) (l : List Int), ll[i]? = some l → ∃ b, cells[i]? = some b ∧ Ints H b l
  size : (ll.length : Int) ≤ 140737488355328
section
variable {P : Program} {s : Nat} {E : Env} {H : Heap}
end
end Go.Proofs.YtffiddkignmobaaDoorVe
end
section
/- VE, part Z: own rows: made, read, written; calls by the number of their arguments. -/
namespace Go.Proofs.YtffiddkignmobaaDoorVe
/-- What H holds, H' holds. -/
def Sub (H H' : Heap) : Prop := ∀ t j o, H.ob t j = some o → H'.ob t j = some o
theorem Sub.refl (H : Heap) : Sub H H := fun _ _ _ h => h
theorem Sub.trans {A B C : Heap} (h : Sub A B) (k : Sub B C) : Sub A C := fun t j o e => k t j o (h t j o e)
theorem rowA_mono {H H' : Heap} (h : Sub H H') {z : Nat} {a : AV} {cs : List AV} (hr : rowA H z a = some cs) : rowA H' z a = some cs := by
  cases a <;> simp only [rowA] at hr ⊢ <;> try exact hr
  rename_i s j g off n
  by_cases hn : n = 0
  · simpa [hn] using hr
  · simp only [hn, if_false] at hr ⊢
    split at hr
    · rename_i o ho
      rw [h _ _ _ ho]; exact hr
    · cases hr
theorem Row.mono {H H' : Heap} (h : Sub H H') {z n : Nat} {a : AV} {cs : List AV} (hr : Row H z a n cs) : Row H' z a n cs := ⟨hr.sl, hr.len, rowA_mono h hr.row, hr.size⟩
theorem Ints.mono {H H' : Heap} (h : Sub H H') {a : AV} {l : List Int} (hr : Ints H a l) : Ints H' a l := ⟨hr.row.mono h, hr.size⟩
theorem Rows.mono {H H' : Heap} (h : Sub H H') {a : AV} {l : List (List Int)} (hr : Rows H a l) : Rows H' a l := by
  obtain ⟨⟨c, h1, h2⟩, h3⟩ := hr
  exact ⟨⟨c, h1.mono h, fun i l hl => by obtain ⟨b, k1, k2⟩ := h2 i l hl; exact ⟨b, k1, k2.mono h⟩⟩, h3⟩
theorem fill_step {α β : Type} (f : α → β) (l : List α) (z : β) {n i : Nat} (hn : n = l.length) {x : α} (h : l[i]? = some x) : ((l.take i).map f ++ List.replicate (n - i) z).set i (f x) = (l.take (i + 1)).map f ++ List.replicate (n - (i + 1)) z := by
  obtain ⟨h1, h2⟩ := List.getElem?_eq_some_iff.1 h
  rw [List.set_append_right _ _ (by simp; omega), List.take_add_one, h]
  have e : n - i = (n - (i + 1)) + 1 := by omega
  rw [e, List.replicate_succ]
  have : i - ((l.take i).map f).length = 0 := by simp; omega
  rw [this]
  simp
theorem rd_get {l : List Int} {i : Int} (h : i.toNat < l.length) : l[i.toNat]? = some (rd l i) := by simp [rd, h]
/-- All but one object as before. -/
structure But (H : Heap) (s j : Nat) (o : Ob) (H' : Heap) : Prop where
  at' : H'.ob s j = some o
  ne : ∀ t i, ¬ (t = s ∧ i = j) → H'.ob t i = H.ob t i
  free : ∀ t, t ≠ s → H t = [] → H' t = []
theorem But.sub {H0 H H' : Heap} {s j M : Nat} {o : Ob} (h : But H s j o H') (hs : Sub H0 H) (hf : ∀ t, M ≤ t → H0 t = []) (hM : M ≤ s) : Sub H0 H' := fun t i o' ho => by
  have : ¬ (t = s ∧ i = j) := fun e => by
    have := ob_lt hf ho
    omega
  rw [h.ne t i this]; exact hs t i o' ho
section
variable {P : Program} {s : Nat} {E : Env} {H : Heap}
end
section
variable {P : Program} {ops : Array Oper} {L i s : Nat} {E : Env} {H H' : Heap} {K : Env → Heap → Prop} {K' : AV → Heap → Prop} {Q : Post} {A : Nat → Nat}
end
end Go.Proofs.YtffiddkignmobaaDoorVe
end
section
/- VE, part AB: all that a body made comes home in one slot. -/
namespace Go.Proofs.YtffiddkignmobaaDoorVe
def objs (H : Heap) (M : Nat) : Nat → List Ob
  | 0 => []
  | k + 1 => objs H M k ++ H (M + k)
theorem objs_le (H : Heap) (M : Nat) : ∀ {k k' : Nat}, k ≤ k' → (objs H M k).length ≤ (objs H M k').length
  | k, 0, h => by
    have : k = 0 := by omega
    rw [this]; exact Nat.le_refl _
  | k, k' + 1, h => by
    rcases Nat.lt_or_ge k (k' + 1) with h1 | h1
    · simp only [objs, List.length_append]
      exact Nat.le_trans (objs_le H M (show k ≤ k' by omega)) (Nat.le_add_right _ _)
    · have : k = k' + 1 := by omega
      rw [this]; exact Nat.le_refl _
theorem objs_get (H : Heap) (M : Nat) : ∀ {K k i : Nat} {o : Ob}, k < K → H.ob (M + k) i = some o → (objs H M K)[(objs H M k).length + i]? = some o
  | 0, k, i, o, hk, _ => by omega
  | K + 1, k, i, o, hk, ho => by
    have hi : i < (H (M + k)).length := (List.getElem?_eq_some_iff.1 ho).1
    rcases Nat.lt_or_ge k K with h1 | h1
    · simp only [objs]
      have h2 := objs_le H M (show k + 1 ≤ K by omega)
      simp only [objs, List.length_append] at h2
      rw [List.getElem?_append_left (by omega)]
      exact objs_get H M h1 ho
    · have : k = K := by omega
      subst this
      simp only [objs]
      rw [List.getElem?_append_right (by omega), Nat.add_sub_cancel_left]
      exact ho
theorem objs_of (H : Heap) (M : Nat) : ∀ {K j : Nat} {o : Ob}, (objs H M K)[j]? = some o → ∃ k i, k < K ∧ j = (objs H M k).length + i ∧ H.ob (M + k) i = some o
  | 0, j, o, h => by simp [objs] at h
  | K + 1, j, o, h => by
    simp only [objs] at h
    rcases Nat.lt_or_ge j (objs H M K).length with h1 | h1
    · rw [List.getElem?_append_left h1] at h
      obtain ⟨k, i, h2, h3, h4⟩ := objs_of H M h
      exact ⟨k, i, by omega, h3, h4⟩
    · rw [List.getElem?_append_right h1] at h
      exact ⟨K, j - (objs H M K).length, by omega, by omega, h⟩
theorem objs_inj (H : Heap) (M : Nat) {k i k' i' : Nat} {o o' : Ob} (h : H.ob (M + k) i = some o) (h' : H.ob (M + k') i' = some o') (e : (objs H M k).length + i = (objs H M k').length + i') : k = k' ∧ i = i' := by
  have hi : i < (H (M + k)).length := (List.getElem?_eq_some_iff.1 h).1
  have hi' : i' < (H (M + k')).length := (List.getElem?_eq_some_iff.1 h').1
  rcases Nat.lt_trichotomy k k' with h1 | h1 | h1
  · have := objs_le H M (show k + 1 ≤ k' by omega)
    simp only [objs, List.length_append] at this
    omega
  · subst h1; exact ⟨rfl, by omega⟩
  · have := objs_le H M (show k' + 1 ≤ k by omega)
    simp only [objs, List.length_append] at this
    omega
def homeφ (H' : Heap) (M s : Nat) (t i : Nat) : Nat × Nat := if t < M then (t, i) else (s, (objs H' M (t - M)).length + i)
theorem callV_of2 {P : Program} {f : Nat} {fn : Func} {c : Code} {args : List AV} {H : Heap} {s : Nat} {R : AV → Heap → Prop} (hm : P.follows .mixedOrders = true) (hf : P.funcs[f]? = some fn) (hc : fn.body = some c) (hnm : (fn.name == "runtime.NumGoroutine") = false)
    (hb : bnd fn.ntmps c = true) (hn : args.length ≤ fn.ntmps)
    (h : ∀ M, s < M → (∀ t, M ≤ t → H t = []) → H s = [] → AV.refss (own H) args → (∀ t i o, H.ob t i = some o → AV.refss (own H) o.cells) →
      wpV P c M (env0 args) H fun e L' E' H' => (e = .normal ∨ e = .ret) ∧ ∃ r, resA P fn.results E' H' = some r ∧ ((∀ t, L' ≤ t → H' t = []) → (∀ t i o, H'.ob t i = some o → AV.refss (own H') o.cells) → (∀ t i, own H t i → own H' t i) → r.refs (own H') → Fin H s r H' R)) : CallV P f args H s R := by
  refine ⟨fun as w => ?_, fun x vals M hR hH hs hM hfr hv => ?_⟩
  · have hne : fn.name ≠ "runtime.NumGoroutine" := by simpa using hnm
    simp [callFunc, program, Sem.run, hf, hne, hc, run_pure, run_bind]
  · subst hH
    refine calls_of_wp hf hc ?_
    have hl := hv.length
    refine wpV_sound hm (N := fn.ntmps) c hb (L := M) (E := env0 args) ⟨hR, env0_rel hv _, hfr, by simp; omega, rfl⟩ (h M hM hfr hs hv.refss fun t i o ho => hR.clo ho) fun e y L' E' a' h1 h2 h3 h4 => ?_
    obtain ⟨he, r, h5, h6⟩ := h4
    obtain ⟨u, m1, m2⟩ := resA_run h3.rel h3.env h5
    obtain ⟨φ, D, H2, k1, k2, k3, k4, k5⟩ := h6 h3.free (fun t i o ho => h3.rel.clo ho) (fun t i ⟨o, ho⟩ => by obtain ⟨o', h, _⟩ := h2.o t i o ho; exact ⟨o', h⟩) m2.refs
    have fin : a'.defers = [] ∧ ∃ v, (results fn a'.tmps).run P y.w = .ok v y.w ∧ ∃ v' z av, Ending.returned v = .returned v' ∧ z.w = y.w ∧ Rel z ∧ Ext x z ∧ VR z av v' ∧ (∀ t, t ≠ s → x.H t = [] → z.H t = []) ∧ R av z.H :=
      ⟨h3.defers, u, m1, u, k1.cx, r.ren φ, rfl, rfl, k1.rel h3.rel, k1.ext h2 k2, k1.vr m2 k3, k4, k5⟩
    rcases he with rfl | rfl <;> exact fin
mutual
theorem ft_refs : ∀ c : FT, c.av.refs (fun _ _ => False)
  | .int k n => by simp [FT.av, AV.refs]
  | .bool b => by simp [FT.av, AV.refs]
  | .str b => by simp [FT.av, AV.refs]
  | .nil => by simp [FT.av, AV.refs]
  | .sl n cs => by simp [FT.av, AV.refs]
  | .agg cs => by simp only [FT.av, AV.refs]; exact ft_refss cs
theorem ft_refss : ∀ l : List FT, AV.refss (fun _ _ => False) (FT.avs l)
  | [] => by simp [FT.avs, AV.refss]
  | c :: cs => by simp only [FT.avs, AV.refss]; exact ⟨ft_refs c, ft_refss cs⟩
end
/-- Rows under new names. -/
theorem rowA_ren {H H2 : Heap} {φ : Nat → Nat → Nat × Nat} (h : Reloc H φ (own H) H2) {z : Nat} {a : AV} {cs : List AV} (hr : rowA H z a = some cs) : rowA H2 z (a.ren φ) = some (AV.rens φ cs) := by
  cases a <;> simp only [rowA, AV.ren] at hr ⊢ <;> try (cases hr; done)
  · split at hr
    · rename_i hz
      injection hr with hr
      subst hr
      rw [if_pos hz, AV.rens_map, List.map_map]
      congr 1
    · cases hr
  · simp only [Option.some.injEq] at hr; subst hr; simp [AV.rens]
  · rename_i n fs
    split at hr
    · rename_i e
      rw [if_pos e]
      simp only [Option.some.injEq] at hr ⊢
      subst hr
      exact (AV.rens_id (D := fun _ _ => False) (fun _ _ h => h.elim) _ (ft_refss fs)).symm
    · cases hr
  · rename_i s j g off n
    by_cases hn : n = 0
    · simp only [hn, if_true, Option.some.injEq] at hr ⊢; subst hr; simp [AV.rens]
    · simp only [hn, if_false] at hr ⊢
      split at hr
      · rename_i o ho
        rw [h.fwd s j o ⟨o, ho⟩ ho]
        simp only
        split at hr
        · rename_i hc
          rw [if_pos (by simpa [AV.rens_map] using hc)]
          simp only [Option.some.injEq] at hr ⊢
          subst hr
          simp [AV.rens_map, List.map_take, List.map_drop]
        · cases hr
      · cases hr
theorem Row.ren {H H2 : Heap} {φ : Nat → Nat → Nat × Nat} (h : Reloc H φ (own H) H2) {z n : Nat} {a : AV} {cs : List AV} (hr : Row H z a n cs) : Row H2 z (a.ren φ) n (AV.rens φ cs) := by
  obtain ⟨h1, h2, h3, h4⟩ := hr
  refine ⟨?_, ?_, rowA_ren h h3, by simpa [AV.rens_map] using h4⟩
  · cases a <;> simp_all [isSl, AV.ren]
  · cases a <;> simp_all [lenA, AV.ren]
theorem rens_ints (φ : Nat → Nat → Nat × Nat) (l : List Int) : AV.rens φ (l.map AV.i) = l.map AV.i := by
  rw [AV.rens_map, List.map_map]
  apply List.map_congr_left
  intro a _
  simp [AV.ren]
theorem Ints.ren {H H2 : Heap} {φ : Nat → Nat → Nat × Nat} (h : Reloc H φ (own H) H2) {a : AV} {l : List Int} (hr : Ints H a l) : Ints H2 (a.ren φ) l := by
  refine ⟨?_, hr.size⟩
  have := hr.row.ren h
  rwa [rens_ints] at this
theorem Rows.ren {H H2 : Heap} {φ : Nat → Nat → Nat × Nat} (h : Reloc H φ (own H) H2) {a : AV} {l : List (List Int)} (hr : Rows H a l) : Rows H2 (a.ren φ) l := by
  obtain ⟨⟨c, h1, h2⟩, h3⟩ := hr
  refine ⟨⟨_, h1.ren h, fun i x hx => ?_⟩, h3⟩
  obtain ⟨b, k1, k2⟩ := h2 i x hx
  exact ⟨b.ren φ, by simp [AV.rens_map, k1], k2.ren h⟩
end Go.Proofs.YtffiddkignmobaaDoorVe
end
section
/- VE, part AC: what a law is handed, as frozen data. -/
namespace Go.Proofs.YtffiddkignmobaaDoorVe
theorem add_none {a : Addr} (h : a.spot = none) (i : Nat) : a.add i = ⟨a.block, a.off + i, none⟩ := by
  unfold Addr.add
  split
  · rename_i e; subst e; cases a; simp_all
  · rfl
theorem spot_none {w : World} {a : Addr} {v : Value} (h : w.cell? (a.add 0) = some v) : a.spot = none := by
  simp only [Addr.add, if_true] at h
  unfold World.cell? at h
  split at h
  · split at h
    · cases h
    · rename_i e; simpa using e
  · cases h
theorem cell_lt {w : World} {a : Addr} {v : Value} (h : w.cell? a = some v) : a.block < w.heap.size := by
  unfold World.cell? at h
  split at h
  · rename_i e; exact lt_of_some e
  · cases h
theorem avs_map : ∀ l : List FT, FT.avs l = l.map FT.av
  | [] => rfl
  | c :: l => by simp [FT.avs, avs_map l]
end Go.Proofs.YtffiddkignmobaaDoorVe
end
section
/- VE, part AD: appending to an own row of whole numbers. -/
namespace Go.Proofs.YtffiddkignmobaaDoorVe
section
variable {P : Program} {ops : Array Oper} {L i s : Nat} {E : Env} {H H' : Heap} {K : Env → Heap → Prop} {A : Nat → Nat}
end
end Go.Proofs.YtffiddkignmobaaDoorVe
end
section
/- union-find over lists of whole numbers -/
namespace Go.Proofs.YtffiddkignmobaaDoorVe
def itr (up : List Int) : Nat → Int → Int
  | 0, x => x
  | d + 1, x => itr up d (rd up x)
def InR (n : Nat) (x : Int) : Prop := 0 ≤ x ∧ x < (n : Int)
structure Fo (n : Nat) (up : List Int) (f : Int → Int) : Prop where
  len : up.length = n
  inn : ∀ x, InR n x → InR n (rd up x)
  rng : ∀ x, InR n x → InR n (f x)
  fix : ∀ x, InR n x → rd up (f x) = f x
  path : ∀ x, InR n x → ∃ d, itr up d x = f x
theorem itr_add (up : List Int) : ∀ (d e : Nat) (x : Int), itr up (d + e) x = itr up e (itr up d x) := by
  intro d
  induction d with
  | zero => intro e x; simp [itr]
  | succ d ih => intro e x; rw [show d + 1 + e = (d + e) + 1 by omega]; simp only [itr]; exact ih e _
theorem itr_fix {up : List Int} {p : Int} (h : rd up p = p) : ∀ d, itr up d p = p := by
  intro d
  induction d with
  | zero => rfl
  | succ d ih => simp only [itr]; rw [h]; exact ih
theorem itr_uniq {up : List Int} {d e : Nat} {y p q : Int} (h1 : itr up d y = p) (hp : rd up p = p) (h2 : itr up e y = q) (hq : rd up q = q) : p = q := by
  have a : itr up (d + e) y = p := by rw [itr_add, h1]; exact itr_fix hp e
  have b : itr up (e + d) y = q := by rw [itr_add, h2]; exact itr_fix hq d
  rw [Nat.add_comm] at a
  exact a.symm.trans b
theorem Fo.step {n : Nat} {up : List Int} {f : Int → Int} (h : Fo n up f) {x : Int} (hx : InR n x) : f (rd up x) = f x := by
  obtain ⟨d, hd⟩ := h.path _ (h.inn x hx)
  obtain ⟨e, he⟩ := h.path x hx
  exact itr_uniq (y := x) (d := d + 1) (by simp only [itr]; exact hd) (h.fix _ (h.inn x hx)) he (h.fix x hx)
theorem Fo.idem {n : Nat} {up : List Int} {f : Int → Int} (h : Fo n up f) {x : Int} (hx : InR n x) : f (f x) = f x := by
  obtain ⟨d, hd⟩ := h.path _ (h.rng x hx)
  rw [← hd]
  exact itr_fix (h.fix x hx) d
theorem Fo.root {n : Nat} {up : List Int} {f : Int → Int} (h : Fo n up f) {x : Int} (hx : InR n x) : rd up x = x ↔ f x = x := by
  constructor
  · intro e
    obtain ⟨d, hd⟩ := h.path x hx
    rw [← hd]
    exact itr_fix e d
  · intro e
    have := h.fix x hx
    rw [e] at this
    exact this
theorem rd_set {xs : List Int} {i j v : Int} (hi : 0 ≤ i) (hj : 0 ≤ j) (hl : i < xs.length) : rd (xs.set i.toNat v) j = if j = i then v else rd xs j := by
  unfold rd
  rw [List.getD_eq_getElem?_getD, List.getD_eq_getElem?_getD, List.getElem?_set]
  by_cases e : j = i
  · subst e
    rw [if_pos rfl, if_pos rfl, if_pos (by omega)]; rfl
  · rw [if_neg (by omega), if_neg e]
def joinF (f : Int → Int) (a b : Int) : Int → Int := fun x => if f x = f a then f b else f x
theorem Fo.join {n : Nat} {up : List Int} {f : Int → Int} (h : Fo n up f) {a b : Int} (ha : InR n a) (hb : InR n b) : Fo n (up.set (f a).toNat (f b)) (joinF f a b) := by
  have hra := h.rng a ha
  have hrb := h.rng b hb
  have hrd : ∀ j, InR n j → rd (up.set (f a).toNat (f b)) j = if j = f a then f b else rd up j := fun j hj => rd_set hra.1 hj.1 (by rw [h.len]; exact hra.2)
  refine ⟨by rw [List.length_set]; exact h.len, fun x hx => ?_, fun x hx => ?_, fun x hx => ?_, fun x hx => ?_⟩
  · rw [hrd x hx]
    split
    · exact hrb
    · exact h.inn x hx
  · unfold joinF
    split
    · exact hrb
    · exact h.rng x hx
  · unfold joinF
    split
    · rw [hrd _ hrb]
      split
      · rfl
      · exact h.fix b hb
    · rename_i hne
      rw [hrd _ (h.rng x hx), if_neg hne]
      exact h.fix x hx
  · obtain ⟨d, hd⟩ := h.path x hx
    revert x
    induction d with
    | zero =>
      intro x hx hd
      simp only [itr] at hd
      unfold joinF
      by_cases e : f x = f a
      · refine ⟨1, ?_⟩
        simp only [itr]
        rw [if_pos e, hrd x hx, if_pos (hd.trans e)]
      · exact ⟨0, by simp only [itr]; rw [if_neg e]; exact hd⟩
    | succ d ih =>
      intro x hx hd
      by_cases e : x = f a
      · subst e
        refine ⟨1, ?_⟩
        simp only [itr, joinF]
        rw [if_pos (h.idem ha), hrd _ hx, if_pos rfl]
      · simp only [itr] at hd
        obtain ⟨d', hd'⟩ := ih (rd up x) (h.inn x hx) (hd.trans (h.step hx).symm)
        refine ⟨d' + 1, ?_⟩
        simp only [itr]
        rw [hrd x hx, if_neg e, hd']
        unfold joinF
        rw [h.step hx]
theorem joinF_ker {f : Int → Int} {a b x y : Int} : joinF f a b x = joinF f a b y ↔ f x = f y ∨ (f x = f a ∧ f y = f b) ∨ (f x = f b ∧ f y = f a) := by
  unfold joinF
  by_cases h1 : f x = f a
  · by_cases h2 : f y = f a
    · rw [if_pos h1, if_pos h2]; exact ⟨fun _ => .inl (h1.trans h2.symm), fun _ => rfl⟩
    · rw [if_pos h1, if_neg h2]
      constructor
      · intro e; exact .inr (.inl ⟨h1, e.symm⟩)
      · rintro (e | ⟨_, e⟩ | ⟨_, e⟩)
        · exact absurd (e.symm.trans h1) h2
        · exact e.symm
        · exact absurd e h2
  · by_cases h2 : f y = f a
    · rw [if_neg h1, if_pos h2]
      constructor
      · intro e; exact .inr (.inr ⟨e, h2⟩)
      · rintro (e | ⟨e, _⟩ | ⟨e, _⟩)
        · exact absurd (e.trans h2) h1
        · exact absurd e h1
        · exact e
    · rw [if_neg h1, if_neg h2]
      constructor
      · intro e; exact .inl e
      · rintro (e | ⟨e, _⟩ | ⟨_, e⟩)
        · exact e
        · exact absurd e h1
        · exact absurd e h2
def Ker (n : Nat) (f g : Int → Int) : Prop := ∀ x y, InR n x → InR n y → (f x = f y ↔ g x = g y)
theorem Ker.join {n : Nat} {f g : Int → Int} (h : Ker n f g) {a b : Int} (ha : InR n a) (hb : InR n b) : Ker n (joinF f a b) (joinF g a b) := fun x y hx hy => by
  rw [joinF_ker, joinF_ker, h x y hx hy, h x a hx ha, h y b hy hb, h x b hx hb, h y a hy ha]
theorem Ker.joinR {n : Nat} {f g : Int → Int} (h : Ker n f g) {a b : Int} (ha : InR n a) (hb : InR n b) : Ker n (joinF f a b) (joinF g b a) := fun x y hx hy => by
  rw [joinF_ker, joinF_ker, h x y hx hy, h x a hx ha, h y b hy hb, h x b hx hb, h y a hy ha]
  constructor <;> (rintro (e | e | e) <;> simp_all)
theorem joinF_same {f : Int → Int} {a b : Int} (e : f a = f b) : joinF f a b = f := by
  funext x; unfold joinF; split <;> simp_all
theorem len_le_of_sub : ∀ (l m : List Int), l.Nodup → (∀ x ∈ l, x ∈ m) → l.length ≤ m.length := by
  intro l
  induction l with
  | nil => intro m _ _; simp
  | cons x l ih =>
    intro m hn hs
    rw [List.nodup_cons] at hn
    have hx : x ∈ m := hs x (by simp)
    have := ih (m.erase x) hn.2 (fun y hy => (List.mem_erase_of_ne (by rintro rfl; exact hn.1 hy)).2 (hs y (by simp [hy])))
    rw [List.length_erase_of_mem hx] at this
    have hp : 0 < m.length := List.length_pos_of_mem hx
    simp only [List.length_cons]
    omega
def ints (n : Nat) : List Int := (List.range n).map fun i : Nat => (i : Int)
theorem mem_ints {n : Nat} {x : Int} : x ∈ ints n ↔ InR n x := by
  unfold ints InR
  rw [List.mem_map]
  constructor
  · rintro ⟨i, hi, rfl⟩; rw [List.mem_range] at hi; omega
  · rintro ⟨h0, h1⟩; exact ⟨x.toNat, by rw [List.mem_range]; omega, by omega⟩
theorem nodup_ints (n : Nat) : (ints n).Nodup := by
  unfold ints
  refine List.Pairwise.map _ (fun (a b : Nat) h => ?_) List.nodup_range
  omega
theorem nodup_map_inj {g : Int → Int} : ∀ {l : List Int}, l.Nodup → (∀ x ∈ l, ∀ y ∈ l, g x = g y → x = y) → (l.map g).Nodup := by
  intro l
  induction l with
  | nil => intro _ _; simp
  | cons x l ih =>
    intro hn hi
    rw [List.nodup_cons] at hn
    rw [List.map_cons, List.nodup_cons]
    refine ⟨fun hm => ?_, ih hn.2 (fun a ha b hb => hi a (by simp [ha]) b (by simp [hb]))⟩
    obtain ⟨y, hy, e⟩ := List.mem_map.1 hm
    have := hi y (by simp [hy]) x (by simp) e
    exact hn.1 (this ▸ hy)
def rootsOf (n : Nat) (f : Int → Int) : List Int := (ints n).filter fun x => f x == x
theorem roots_le {n : Nat} {f g : Int → Int} (hf : ∀ x, InR n x → InR n (g x)) (hg : ∀ x, InR n x → g (g x) = g x) (h : Ker n f g) : (rootsOf n f).length ≤ (rootsOf n g).length := by
  rw [← List.length_map (f := g)]
  refine len_le_of_sub _ _ (nodup_map_inj ((nodup_ints n).filter _) (fun x hx y hy e => ?_)) (fun x hx => ?_)
  · simp only [rootsOf, List.mem_filter, mem_ints, beq_iff_eq] at hx hy
    have := (h x y hx.1 hy.1).2 e
    rw [hx.2, hy.2] at this
    exact this
  · obtain ⟨y, hy, rfl⟩ := List.mem_map.1 hx
    simp only [rootsOf, List.mem_filter, mem_ints, beq_iff_eq] at hy ⊢
    exact ⟨hf y hy.1, hg y hy.1⟩
theorem roots_eq {n : Nat} {up vp : List Int} {f g : Int → Int} (hf : Fo n up f) (hg : Fo n vp g) (h : Ker n f g) : (rootsOf n f).length = (rootsOf n g).length :=
  Nat.le_antisymm (roots_le hg.rng (fun _ hx => hg.idem hx) h) (roots_le hf.rng (fun _ hx => hf.idem hx) (fun x y hx hy => (h x y hx hy).symm))
theorem rd_ints {n : Nat} {x : Int} (h : InR n x) : rd (ints n) x = x := by
  unfold rd ints
  obtain ⟨h0, h1⟩ := h
  rw [List.getD_eq_getElem?_getD, List.getElem?_map, List.getElem?_range (by omega)]
  simp only [Option.map_some, Option.getD_some]
  omega
theorem Fo.init (n : Nat) : Fo n (ints n) id :=
  ⟨by simp [ints], fun x hx => by rw [rd_ints hx]; exact hx, fun _ hx => hx, fun x hx => rd_ints hx, fun x _ => ⟨0, rfl⟩⟩
theorem Ker.refl (n : Nat) (f : Int → Int) : Ker n f f := fun _ _ _ _ => Iff.rfl
end Go.Proofs.YtffiddkignmobaaDoorVe
end
section
/- VE, part Lb: what the library's own functions do, out of contracts on the world. -/
namespace Go.Proofs.YtffiddkignmobaaDoorVe
open Go.RowKit
theorem Rel.blt {x : Cx} (hR : Rel x) {s j : Nat} {o : Ob} (ho : x.H.ob s j = some o) : (x.β s j).1 < x.w.heap.size := by
  rcases hR.obj s j o ho with ⟨_, es, cl, h, _⟩ | ⟨_, c, e, h, _⟩
  all_goals exact (Array.getElem?_eq_some_iff.1 h).1
theorem Ext.below {x : Cx} {w' : World} (hR : Rel x) (h : Below x.w.heap.size x.w w') : Ext x { x with w := w' } where
  z := fun k hk => ⟨hk, h.block k (hR.zlt k hk)⟩
  o := fun s j o ho => ⟨o, ho, Nat.le_refl _, fun _ => ⟨rfl, rfl, fun c e hc => ⟨c, by rw [h.block _ (hR.blt ho)]; exact hc, rfl⟩⟩⟩
  keep := fun k hk _ => h.block k hk
  blk := fun s j o ho => .inl ⟨s, j, o, ho, rfl⟩
  os := h.os
  tape := h.tape
  output := h.output
  size := h.size
theorem Rel.below {x : Cx} {w' : World} (hR : Rel x) (h : Below x.w.heap.size x.w w') : Rel { x with w := w' } where
  obj := fun s j o ho => (hR.obj s j o ho).keep (Ext.below hR h) (by show w'.heap[_]? = _; rw [h.block _ (hR.blt ho)])
  inj := hR.inj
  sep := hR.sep
  zlt := fun k hk => Nat.lt_of_lt_of_le (hR.zlt k hk) h.size
  side := side_stab hR.side fun k hk => h.block k (hR.zlt k (hR.sideZ k hk))
  sideZ := hR.sideZ
/-- A function of which a contract on the world is known: its result holds no objects. -/
theorem callV_of_lib {P : Program} {f : Nat} {args : List AV} {H : Heap} {s : Nat} {r : AV} (hE : Enters P f) (h : ∀ (x : Cx) (vals : List Value), Rel x → x.H = H → VRL x args vals → ∃ v, (∀ y, VR y r v) ∧ Calls P f vals.toArray x.w fun e w' => e = .returned v ∧ Below x.w.heap.size x.w w') :
    CallV P f args H s fun v H' => v = r ∧ H' = H :=
  ⟨hE, fun x vals M hR hH _ _ _ hv => by
    obtain ⟨v, h1, h2⟩ := h x vals hR hH hv
    refine Calls.mono h2 ?_
    rintro e w' ⟨rfl, hb⟩
    exact ⟨v, { x with w := w' }, r, rfl, rfl, Rel.below hR hb, Ext.below hR hb, h1 _, fun t _ ht => by show x.H t = _; rw [hH]; exact ht, rfl, hH⟩⟩
/-- The elements of a slice, as cells of the world. -/
theorem row_cells {x : Cx} (hR : Rel x) {m : Nat} {a : AV} {xs : List AV} {u : Value} (h : rowA x.H 1 a = some xs) (hm : lenA a = some m) (hl : xs.length = m) (hs : ∀ b, a ≠ .str b) (hv : VR x a u) :
    ∃ A cap, u = .slice A m cap ∧ m ≤ cap ∧ (m ≠ 0 → ∃ b o vs, A = some ⟨b, o, none⟩ ∧ b < x.w.heap.size ∧ VRL x xs vs ∧ ∀ (i : Nat) (v : Value), vs[i]? = some v → x.w.cell? ⟨b, o + i, none⟩ = some v) := by
  cases hv <;> simp only [rowA] at h <;> try cases h
  case str b => exact absurd rfl (hs b)
  case nil =>
    simp only [lenA, Option.some.injEq] at hm
    subst hm
    exact ⟨none, 0, rfl, Nat.le_refl _, fun h => absurd rfl h⟩
  case fz n cs hf =>
    simp only [lenA, Option.some.injEq] at hm
    subst hm
    split at h
    · obtain ⟨rfl⟩ := h
      cases hf with
      | sl0 A cap => exact ⟨A, cap, rfl, Nat.zero_le _, fun h => absurd rfl h⟩
      | sl _ cap b off _ vs h0 h1 h2 h3 h4 => exact ⟨_, cap, rfl, h1, fun _ => ⟨b, off, vs, rfl, hR.zlt b h4, FRL.vrl h3, h2⟩⟩
    · cases h
  case sl s j g off n cap a o h1 h2 h3 h4 =>
    simp only [lenA, Option.some.injEq] at hm
    subst hm
    refine ⟨_, _, rfl, h3, fun hn => ?_⟩
    rw [if_neg hn, h1] at h
    simp only at h
    split at h
    · rename_i hc
      obtain ⟨rfl⟩ := h
      have hzo : o.z ≠ MZ := by
        obtain ⟨_, _, _, _, hb, _⟩ := h4 hc.1
        exact hR.noMap h1 hb
      obtain ⟨vs, e1, e2, e3⟩ := hR.cells h1 hzo off (n * 1) hc.2.2
      obtain ⟨p, _, _, rfl, _, _, h5 | rfl⟩ := h4 hc.1
      · omega
      · exact ⟨_, _, vs, rfl, hR.blt h1, e2, fun i v hi => e3 i v hi⟩
    · cases h
end Go.Proofs.YtffiddkignmobaaDoorVe
end
