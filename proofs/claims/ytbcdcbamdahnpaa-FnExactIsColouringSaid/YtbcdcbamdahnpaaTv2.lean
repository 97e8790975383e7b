/- A typed weakest precondition over that logic, proved sound: for every program with a table of types that fits it. -/
import Derived.Test.YtbcdcbamdahnpaaTv1
set_option linter.unusedVariables false
set_option linter.unusedSimpArgs false
section
/- TV, part L: appending by value, loading, storing, copying. -/
namespace Go.Proofs.YtbcdcbamdahnpaaTv
open Go.Proofs.YtbcdcbamdahnpaaVe
section
variable {P : Program} {tab : List (Nat × TE)} {m : MS} {σ : List Obj} {s : Nat} {ρ : Operand → V} {ρv : Operand → AV} {K : V → List Obj → Prop}
theorem frzV_length (σ : List Obj) (v : V) : (frzV σ v).length = σ.length := by
  cases v <;> simp only [frzV]
  split <;> simp
theorem frzV_get {id : Nat} {x : V} (h : match x with | .own id2 _ _ => id ≠ id2 | _ => True) : (frzV σ x)[id]? = σ[id]? := by
  cases x <;> simp only [frzV]
  simp only at h
  split
  · rw [List.getElem?_set_ne (fun e => h e.symm)]
  · rfl
theorem appVal_sound (hT : TabOk P tab) (hS : St m σ) (hs : m.H s = []) {t u : TypeId} {e e' : TE} {t' : Ty} (ht : look tab t = some e) (he : e.ty = .list t') (hu : look tab u = some e') (he' : e'.ty = .list t') {p q : Operand} {ts : Array TypeId} (hts : ts.toList = [t, u]) {as : Array Operand} (has : as.toList = [p, q])
    (hp : VT m σ (ρ p) (ρv p)) (hq : VT m σ (ρ q) (ρv q)) (h : appVal σ t' (ρ p) (ρ q) K) : Snd P m σ s ρv (.call ⟨.builtin .append, as, ts⟩) K := by
  unfold appVal at h
  obtain ⟨xs, m1, h1, eH, hS1, hK1, hF1, a, chx, ea, hsl, hlen, hrow, hG, hmost, hall⟩ := Rd_frz hS hs h hq
  injection ea with ea _
  subst ea
  have hmost : (xs.length : Int) ≤ most := by
    split at h1
    · obtain ⟨l, uu, e3, hne, hn, hnm, hk⟩ := h1
      simp only [most]; omega
    · cases h1
  obtain ⟨b, hb1, hb2, hop⟩ := opE_append (s := s) hT ht he hu he' hts has hlen hrow hmost hall
  split at h1
  · rename_i id off n e2
    obtain ⟨l, uu, e3, hne, hn, hnm, hk⟩ := h1
    have hs1 : m1.H s = [] := by rw [eH]; exact hs
    have e3' : (frzV σ (ρ q))[id]? = some (.arr t' l uu) := by rw [frzV_get hne]; exact e3
    obtain ⟨g, ch, O, k1, k4, k3, k5, k6, _, _, k2⟩ := (hS1.obj id _ e3').foot
    have hp1 := hp.keep hK1
    rw [e2] at hp1
    obtain ⟨o, k7, e4⟩ := hp1.own_inv (kind_arr e3')
    rw [k1] at k7
    injection k7 with k7
    subst k7
    rw [e4, addA_own (s := s) k1 k2 hn (room hb1 hb2 hnm)] at hop
    have hput := Heap.ob_put (show m1.H.ob (m1.ι id).1 (m1.ι id).2 = some _ from k1) ⟨g + 1, t'.z, ((ch.drop off).take n).flatten ++ chx.flatten⟩
    obtain ⟨r1, r2, r3⟩ := cons_step hS1 hs1 [id] [m1.ι id] O (m1.ι id) (m1.H.put (m1.ι id).1 (m1.ι id).2 ⟨g + 1, t'.z, ((ch.drop off).take n).flatten ++ chx.flatten⟩) (.arr t' ((l.drop off).take n ++ xs) false)
      (fun q hq => by simp at hq; subst hq; exact .inr ⟨id, by simp, k4⟩) (fun q hq _ => .inr ⟨id, by simp, k5 q hq⟩)
      (fun t j _ hh => by
        rw [hput, if_neg]
        rintro ⟨rfl, rfl⟩
        exact hh id k4 (by simp))
      (fun kp => by
        refine ⟨g + 1, (ch.drop off).take n ++ chx, ?_, ?_, ?_, All2.append ?_ (hall.mono fun x c _ _ k => k.keep kp.fz)⟩
        · simp only [MS.at, reι, if_true, hput, and_self, List.flatten_append]
        · simp [reι, reF]
        · have : ((l.drop off).take n ++ xs).length = n + xs.length := by simp; omega
          rw [this]; exact hnm
        · refine ((k2.drop off).take n).mono fun x c _ _ k => k.keep fun s' j' hg => ?_
          rcases hg with hg | hg
          · exact kp.fz s' j' hg
          · have hne2 : ¬ (s', j') = m1.ι id := fun c => k6 (c ▸ hg)
            refine ⟨?_, ?_⟩
            · show reF m1 [id] [m1.ι id] O _ s' j' = some 0
              unfold reF
              rw [if_neg (by simpa using hne2), if_pos hg]
            · show (m1.H.put _ _ _).ob s' j' = _
              rw [hput, if_neg (fun c => hne2 (Prod.ext c.1 c.2))])
      (fun q hq => by
        rcases hq with hq | hq
        · simp at hq; subst hq; exact ⟨⟨g + 1, t'.z, ((ch.drop off).take n).flatten ++ chx.flatten⟩, by rw [hput]; simp⟩
        · rw [hput, if_neg (fun c => k6 (by have : q = m1.ι id := Prod.ext c.1 c.2; rw [← this]; exact hq))]
          exact hS1.dom _ _ _ (k5 q hq))
    have hfl := frzV_length σ (ρ q)
    rw [← hfl] at hk
    have he5 : (⟨reF m1 [id] [m1.ι id] O (frzV σ (ρ q)).length, m1.H.put (m1.ι id).1 (m1.ι id).2 ⟨g + 1, t'.z, ((ch.drop off).take n).flatten ++ chx.flatten⟩, reι m1 (frzV σ (ρ q)).length (m1.ι id)⟩ : MS).H = m1.H.put (m1.ι id).1 (m1.ι id).2 ⟨g + 1, t'.z, ((ch.drop off).take n).flatten ++ chx.flatten⟩ := rfl
    refine ⟨_, _, by rw [← eH]; exact hop, _, _, ⟨reF m1 [id] [m1.ι id] O (frzV σ (ρ q)).length, m1.H.put (m1.ι id).1 (m1.ι id).2 ⟨g + 1, t'.z, ((ch.drop off).take n).flatten ++ chx.flatten⟩, reι m1 (frzV σ (ρ q)).length (m1.ι id)⟩, rfl, ⟨r1, hK1.trans r2, hF1.trans r3, ?_⟩, hk⟩
    refine .own _ _ _ _ (by simp [goneL]) fun t2 ht2 => ⟨⟨g + 1, t'.z, ((ch.drop off).take n).flatten ++ chx.flatten⟩, by simp only [MS.at, reι, if_true, hput, and_self], by simp [reι]⟩
  · exact h1.elim
theorem loadA_take {H : Heap} {n k : Nat} {a : AV} {as : List AV} (h : loadA H n a = some as) (hk : k ≤ n) : loadA H k a = some (as.take k) := by
  cases a <;> simp only [loadA] at h ⊢ <;> try (cases h; done)
  · split at h
    · rename_i o ho
      split at h
      · rename_i hc
        injection h with h
        subst h
        rw [if_pos ⟨hc.1, by omega⟩, List.take_take, Nat.min_eq_left hk]
      · cases h
    · cases h
  · split at h
    · injection h with h
      subst h
      rw [if_pos (by omega)]
      congr 1
      have : ∀ (l : List FT) (k n : Nat), k ≤ n → FT.avs (l.take k) = (FT.avs (l.take n)).take k := fun l => by
        induction l with
        | nil => intro k n _; simp [FT.avs]
        | cons c l ih =>
          intro k n hkn
          cases k with
          | zero => simp [FT.avs]
          | succ k =>
            cases n with
            | zero => omega
            | succ n => simp only [List.take_succ_cons, FT.avs]; rw [ih k n (by omega)]
      exact this _ _ _ hk
    · cases h
theorem isAgg_rec {e : TE} (h : dOk tab e) : e.d.isAgg = e.ty.isRec := by
  unfold dOk at h
  split at h <;> simp_all [TD.isAgg, Ty.isRec]
theorem opE_loadAgg {t : TypeId} {e : TE} (h1 : ti P t = some ⟨e.d, e.ty.z, e.bytes, zeroA e.ty⟩) (hd : e.d.isAgg = true) {H : Heap} {a : Operand} {as : List AV} (h : loadA H e.ty.z (ρv a) = some as) : opE P s ρv H (.load t a) = some (.agg as, H) := by
  simp only [opE, h1, h, hd, if_true]
theorem opE_load1 {t : TypeId} {e : TE} (h1 : ti P t = some ⟨e.d, e.ty.z, e.bytes, zeroA e.ty⟩) (hd : e.d.isAgg = false) {H : Heap} {a : Operand} {v : AV} (h : loadA H e.ty.z (ρv a) = some [v]) : opE P s ρv H (.load t a) = some (v, H) := by
  simp [opE, h1, h, hd]
theorem z_one {t : Ty} (h : t.isRec = false) : t.z = 1 := by cases t <;> simp_all [Ty.isRec, Ty.z]
/-- What is loaded as typed data. -/
theorem load_typed {t : TypeId} {e : TE} (h1 : ti P t = some ⟨e.d, e.ty.z, e.bytes, zeroA e.ty⟩) (h2 : dOk tab e) {H : Heap} {a : Operand} {x : e.ty.den} {as : List AV} (h : loadA H e.ty.z (ρv a) = some as) (hx : Sh m.fz m.H e.ty x as) : ∃ v, opE P s ρv H (.load t a) = some (v, H) ∧ VT m σ (ofT e.ty x) v := by
  have hd := isAgg_rec h2
  cases hr : e.ty.isRec with
  | true => exact ⟨_, opE_loadAgg h1 (hd.trans hr) h, hx.ofT (by simp [recA, hr])⟩
  | false =>
    have hl := hx.length
    rw [z_one hr] at hl
    obtain ⟨v, rfl⟩ := List.length_eq_one_iff.1 hl
    exact ⟨v, opE_load1 h1 (hd.trans hr) h, hx.ofT (by simp [recA, hr])⟩
/-- The cells of an element. -/
theorem load_elem {t : Ty} {l : List t.den} {ch : List (List AV)} {G : Nat → Nat → Prop} {H : Heap} {S J g i : Nat} (ho : H.ob S J = some ⟨g, t.z, ch.flatten⟩) (h : All2 (fun x c => Sh G H t x c) l ch) (hi : i < l.length) : ∃ c, loadA H t.z (.ptr S J g (i * t.z)) = some c ∧ Sh G H t (rdT t l (i : Nat)) c := by
  obtain ⟨c, hc, hs⟩ := h.get (rdT_get t l (i : Nat) (by simpa using hi))
  simp only [Int.toNat_natCast] at hc
  refine ⟨c, ?_, hs⟩
  have hcl := h.cells
  have h2 : i + 1 ≤ ch.length := by rw [← h.length]; exact hi
  have h3 := flatten_sub ch i 1 h.chunk h2
  rw [Nat.one_mul] at h3
  have h4 : (ch.drop i).take 1 = [c] := by
    obtain ⟨h5, h6⟩ := List.getElem?_eq_some_iff.1 hc
    rw [List.drop_eq_getElem_cons h5, h6]; simp
  rw [h4] at h3
  simp only [loadA, ho]
  have h7 : i * t.z + t.z ≤ ch.flatten.length := by
    rw [hcl, ← Nat.succ_mul]; exact Nat.mul_le_mul_right _ hi
  rw [if_pos ⟨trivial, h7⟩, ← h3]
  simp
theorem load_sound (hT : TabOk P tab) (hS : St m σ) (hs : m.H s = []) {t : TypeId} {e : TE} (ht : look tab t = some e) {a : Operand} (ha : VT m σ (ρ a) (ρv a)) (h : loadT σ e (ρ a) K) : Snd P m σ s ρv (.load t a) K := by
  obtain ⟨h1, h2⟩ := hT t e ht
  unfold loadT at h
  split at h
  · rename_i cs e1
    rw [e1] at ha
    generalize hav : ρv a = av at ha
    cases ha with
    | pv _ _ as k1 k2 k3 =>
      split at h
      · rename_i hr
        have hl := loadA_take k1 (Nat.le_of_ble_eq_true h.1)
        rw [← hav] at hl
        exact Snd.same hS (opE_loadAgg h1 ((isAgg_rec h2).trans hr) hl) (.agg _ _ (k3.take _)) h.2
      · rename_i hr'
        cases k3 with
        | nil => exact h.elim
        | cons v a' vs as' q1 q2 =>
          have hl := loadA_take k1 (show 1 ≤ (v :: vs).length by simp)
          rw [← hav] at hl
          simp only [List.take_succ_cons, List.take_zero] at hl
          exact Snd.same hS (opE_load1 h1 ((isAgg_rec h2).trans hr') (by rw [z_one hr']; exact hl)) q1 h
  · rename_i id i e1
    rw [e1] at ha
    split at h
    · rename_i t' l u e2
      obtain ⟨rfl, hi, h⟩ := h
      obtain ⟨g, ch, O, k1, k2, k3, k4, k5, k6, k6', k7⟩ := (hS.obj id _ e2).foot
      obtain ⟨o, q1, q2⟩ := ha.pel_inv (kind_arr e2)
      rw [k1] at q1
      injection q1 with q1
      subst q1
      obtain ⟨c, c1, c2⟩ := load_elem k1 k7 hi
      rw [← q2] at c1
      split at h
      · rename_i hc
        have hsh : Sh m.fz m.H e.ty (rdT e.ty l i) c := by
          rcases hc with hc | hc
          · rw [c2.enc hc]; exact enc_sh _ _ _ hc
          · rw [k6' hc] at c2
            exact c2.keep fun s j hg => ⟨by show m.F s j = some 0; simpa using hg, rfl⟩
        obtain ⟨v, v1, v2⟩ := load_typed (σ := σ) (s := s) h1 h2 c1 hsh
        exact Snd.same hS v1 v2 h
      · obtain ⟨m', eH, f1, f2, f3⟩ := freeze_step hS hs e2
        have hid : id < σ.length := (List.getElem?_eq_some_iff.1 e2).1
        have he : (σ.set id (.frz e.ty l))[id]? = some (.frz e.ty l) := by simp [hid]
        obtain ⟨g', ch', j1, j2, j3, j4⟩ := (f1.obj id _ he).frz
        obtain ⟨o', q3, q4⟩ := (ha.keep f2).pel_inv (kind_frz he)
        rw [j1] at q3
        injection q3 with q3
        subst q3
        obtain ⟨c', d1, d2⟩ := load_elem j1 j2 hi
        rw [← q4, eH] at d1
        obtain ⟨v, v1, v2⟩ := load_typed (σ := σ.set id (.frz e.ty l)) (s := s) h1 h2 d1 d2
        exact ⟨_, _, v1, _, _, m', eH, ⟨f1, f2, f3, v2⟩, h⟩
    · rename_i t' l e2
      obtain ⟨rfl, hi, h⟩ := h
      obtain ⟨g', ch', j1, j2, j3, j4⟩ := (hS.obj id _ e2).frz
      obtain ⟨o', q3, q4⟩ := ha.pel_inv (kind_frz e2)
      rw [j1] at q3
      injection q3 with q3
      subst q3
      obtain ⟨c', d1, d2⟩ := load_elem j1 j2 hi
      rw [← q4] at d1
      obtain ⟨v, v1, v2⟩ := load_typed (σ := σ) (s := s) h1 h2 d1 d2
      exact Snd.same hS v1 v2 h
    · exact h.elim
  · rename_i id k e1
    rw [e1] at ha
    split at h
    · rename_i vs e2
      obtain ⟨hk, h⟩ := h
      have hk := Nat.le_of_ble_eq_true hk
      obtain ⟨g, z, as, k1, k2, k3⟩ := hS.obj id _ e2
      obtain ⟨o, q1, q2⟩ := ha.pcell_inv (kind_vars e2)
      rw [k1] at q1
      injection q1 with q1
      subst q1
      have hl : loadA m.H e.ty.z (ρv a) = some ((as.drop k).take e.ty.z) := by
        rw [q2]
        simp only [loadA, show m.H.ob (m.ι id).1 (m.ι id).2 = _ from k1]
        rw [if_pos ⟨trivial, by rw [← k3.length]; exact hk⟩]
      split at h
      · rename_i hr
        exact Snd.same hS (opE_loadAgg h1 ((isAgg_rec h2).trans hr) hl) (.agg _ _ ((k3.drop k).take _)) h
      · rename_i hr'
        rw [z_one hr'] at hk
        have hv : vs[k]? = some (vs.getD k .undef) := by
          rw [List.getD_eq_getElem?_getD, List.getElem?_eq_getElem (by omega)]; rfl
        obtain ⟨y, y1, y2⟩ := k3.get hv
        have : (as.drop k).take 1 = [y] := by
          obtain ⟨h5, h6⟩ := List.getElem?_eq_some_iff.1 y1
          rw [List.drop_eq_getElem_cons h5, h6]; simp
        rw [z_one hr', this] at hl
        exact Snd.same hS (opE_load1 h1 ((isAgg_rec h2).trans hr') (by rw [z_one hr']; exact hl)) y2 h
    · exact h.elim
  · exact h.elim
end
end Go.Proofs.YtbcdcbamdahnpaaTv
end
section
/- TV, part M: storing, copying. -/
namespace Go.Proofs.YtbcdcbamdahnpaaTv
open Go.Proofs.YtbcdcbamdahnpaaVe
section
variable {P : Program} {tab : List (Nat × TE)} {m : MS} {σ : List Obj} {s : Nat} {ρ : Operand → V} {ρv : Operand → AV} {K : V → List Obj → Prop}
/-- An object is changed in its place; those of C2 are let go. -/
theorem set_step (hS : St m σ) (hs : m.H s = []) {id : Nat} {o0 o' : Obj} (h0 : σ[id]? = some o0) (hk : o'.kind = o0.kind) (C2 : List Nat) (hnot : id ∉ C2) (O Z : List (Nat × Nat)) (H' : Heap)
    (hO : ∀ q ∈ O, ∃ k ∈ id :: C2, m.F q.1 q.2 = some (k + 1)) (hZ : ∀ q ∈ Z, q ∉ O → ∃ k ∈ id :: C2, m.F q.1 q.2 = some (k + 1))
    (hH : ∀ t j, (∀ k, m.F t j = some (k + 1) → k ∉ id :: C2) → H'.ob t j = m.H.ob t j)
    (hg : ∀ o, m.at id = some o → ∃ o', H'.ob (m.ι id).1 (m.ι id).2 = some o' ∧ o'.g = o.g)
    (hob : Kp m σ ⟨reF m (id :: C2) O Z id, H', reι m id (m.ι id)⟩ ((goneL σ C2).set id o') → OT ⟨reF m (id :: C2) O Z id, H', reι m id (m.ι id)⟩ ((goneL σ C2).set id o') id o')
    (dom : ∀ q, (q ∈ O ∨ q ∈ Z) → ∃ o, H'.ob q.1 q.2 = some o) :
    St ⟨reF m (id :: C2) O Z id, H', reι m id (m.ι id)⟩ ((goneL σ C2).set id o') ∧ Kp m σ ⟨reF m (id :: C2) O Z id, H', reι m id (m.ι id)⟩ ((goneL σ C2).set id o') ∧ Fr m ⟨reF m (id :: C2) O Z id, H', reι m id (m.ι id)⟩ s := by
  have hlen := goneL_length C2 σ
  have hid : id < σ.length := (List.getElem?_eq_some_iff.1 h0).1
  have hge : ((goneL σ C2).set id o')[id]? = some o' := by simp [hlen, hid]
  refine mk_step hS hs (id :: C2) O Z id (m.ι id) H' (by simp [hlen]) (.inl (by simp)) (fun q hq => .inr (hO q hq)) (fun q hq hn => .inr (hZ q hq hn)) (fun t j _ hh => hH t j hh) (fun i h1 h2 => ?_) (fun i hi hl κ hκ => ?_) (fun kp i o2 ho2 hi => ?_) dom
  · rw [List.getElem?_set_ne (fun e => h2 (by simp [e]))]
    exact goneL_other C2 σ (fun c => h2 (by simp [c]))
  · rcases List.mem_cons.1 hi with rfl | hi
    · unfold kind at hκ ⊢
      rw [hge] at hκ
      simp only [Option.bind_some] at hκ
      rw [hk] at hκ
      rw [h0]
      exact ⟨hκ, by simp [reι], hg⟩
    · have hne : i ≠ id := fun e => hnot (e ▸ hi)
      unfold kind at hκ
      rw [List.getElem?_set_ne (fun e => hne e.symm)] at hκ
      rcases goneL_in C2 σ hi with h | h <;> rw [h] at hκ <;> simp [Obj.kind] at hκ
  · by_cases hne : i = id
    · subst hne
      rw [hge] at ho2
      injection ho2 with e
      subst e
      exact hob kp
    · rw [List.getElem?_set_ne (fun e => hne e.symm)] at ho2
      have hi' : i ∈ C2 := by
        rcases hi with hi | hi
        · simpa [hne] using hi
        · have := (List.getElem?_eq_some_iff.1 ho2).1
          rw [hlen] at this; omega
      rcases goneL_in C2 σ hi' with h | h <;> rw [h] at ho2
      · cases ho2
      · injection ho2 with e; subst e; trivial
theorem flatten_set {α : Type} {z : Nat} : ∀ (l : List (List α)) (i : Nat) (c : List α), (∀ d ∈ l, d.length = z) → c.length = z → i < l.length → (l.set i c).flatten = l.flatten.take (i * z) ++ c ++ l.flatten.drop (i * z + z)
  | [], i, c, _, _, h => by simp at h
  | d :: l, 0, c, hz, hc, _ => by
    have hd := hz d (by simp)
    simp only [List.set_cons_zero, List.flatten_cons, Nat.zero_mul, List.take_zero, List.nil_append, Nat.zero_add]
    rw [List.drop_append, List.drop_of_length_le (by omega), hd]
    simp
  | d :: l, i + 1, c, hz, hc, h => by
    have hd := hz d (by simp)
    have ih := flatten_set l i c (fun x hx => hz x (by simp [hx])) hc (by simpa using h)
    simp only [List.set_cons_succ, List.flatten_cons]
    rw [ih, List.take_append, List.drop_append, List.take_of_length_le (l := d) (by rw [hd]; exact Nat.le_mul_of_pos_left z (by omega)), List.drop_of_length_le (l := d) (by rw [hd, Nat.succ_mul]; omega), hd]
    have e1 : (i + 1) * z - z = i * z := by rw [Nat.succ_mul]; omega
    have e2 : (i + 1) * z + z - z = i * z + z := by rw [Nat.succ_mul]; omega
    rw [e1, e2]
    simp
theorem opE_store {t : TypeId} {e : TE} (h1 : ti P t = some ⟨e.d, e.ty.z, e.bytes, zeroA e.ty⟩) {H : Heap} {a x : Operand} {S J g off : Nat} {o : Ob} (ha : ρv a = .ptr S J g off) (ho : H.ob S J = some o) (hg : o.g = g) (hx : (ρv x).cells.length = e.ty.z) (hoff : off + e.ty.z ≤ o.cells.length) (hc : (ρv x).cells.all AV.isCell = true) :
    opE P s ρv H (.store t a x) = some (.undef, H.put S J ⟨g, o.z, o.cells.take off ++ (ρv x).cells ++ o.cells.drop (off + e.ty.z)⟩) := by
  simp only [opE, h1, ha, ho]
  rw [if_pos ⟨hg, hx, hoff, hc⟩]
theorem storeFlat_sound (hT : TabOk P tab) (hS : St m σ) (hs : m.H s = []) {t : TypeId} {e : TE} (ht : look tab t = some e) {a x : Operand} (ha : VT m σ (ρ a) (ρv a)) (hx : VT m σ (ρ x) (ρv x)) {id i : Nat} (e1 : ρ a = .pel id i) {T : Ty} (hT' : e.ty = T) {l : List T.den} {u : Bool} (e2 : σ[id]? = some (.arr T l u)) (hf : T.flat = true) (hi : i < l.length)
    (h : elC T (ρ x).cells fun y r => r = [] ∧ K .undef (σ.set id (.arr T (l.set i y) u))) : Snd P m σ s ρv (.store t a x) K := by
  obtain ⟨h1, h2⟩ := hT t e ht
  subst hT'
  rw [e1] at ha
  obtain ⟨g, ch, k1, k2, k3, k4⟩ := (hS.obj id _ e2).arr
  obtain ⟨o, q1, q2⟩ := ha.pel_inv (kind_arr e2)
  rw [k1] at q1
  injection q1 with q1
  subst q1
  obtain ⟨y, y1, y2, _⟩ := elV_sound (k := fun y => K .undef (σ.set id (.arr e.ty (l.set i y) u))) h hx
  have hlen := y1.length
  have hi2 : i < ch.length := by rw [← k2.length]; exact hi
  have hop := opE_store (s := s) h1 q2 (show m.H.ob (m.ι id).1 (m.ι id).2 = some _ from k1) rfl hlen (by
    simp only
    rw [k2.cells, ← Nat.succ_mul]; exact Nat.mul_le_mul_right _ hi) (List.all_eq_true.2 fun b hb => y1.isCell b hb)
  simp only at hop
  rw [← flatten_set ch i (ρv x).cells k2.chunk hlen hi2] at hop
  have hput := Heap.ob_put (show m.H.ob (m.ι id).1 (m.ι id).2 = some _ from k1) ⟨g, e.ty.z, (ch.set i (ρv x).cells).flatten⟩
  obtain ⟨r1, r2, r3⟩ := set_step hS hs (o' := .arr e.ty (l.set i y) u) e2 rfl [] (by simp) [m.ι id] [] (m.H.put (m.ι id).1 (m.ι id).2 ⟨g, e.ty.z, (ch.set i (ρv x).cells).flatten⟩)
    (fun q hq => by simp at hq; subst hq; exact ⟨id, by simp, k4⟩) (fun q hq => by simp at hq)
    (fun t j hh => by
      rw [hput, if_neg]
      rintro ⟨rfl, rfl⟩
      exact hh id k4 (by simp))
    (fun o ho => by
      rw [k1] at ho; injection ho with ho; subst ho
      exact ⟨⟨g, e.ty.z, (ch.set i (ρv x).cells).flatten⟩, by rw [hput]; simp, rfl⟩)
    (fun kp => OT.of_flat (G := anyF m) (H := m.H) (g := g) (ch := ch.set i (ρv x).cells) hf (by simp only [MS.at, reι, if_true, hput, and_self]) (by simp [reι, reF]) (by simpa using k3) (k2.set i y1.any))
    (fun q hq => by
      rcases hq with hq | hq
      · simp at hq; subst hq; exact ⟨⟨g, e.ty.z, (ch.set i (ρv x).cells).flatten⟩, by rw [hput]; simp⟩
      · simp at hq)
  exact ⟨_, _, hop, .undef, _, _, rfl, ⟨r1, r2, r3, .undef _⟩, y2⟩
theorem storeRow_sound (hT : TabOk P tab) (hS : St m σ) (hs : m.H s = []) {t : TypeId} {e : TE} (ht : look tab t = some e) {t' : Ty} (he : e.ty = .list t') {a x : Operand} (ha : VT m σ (ρ a) (ρv a)) (hx : VT m σ (ρ x) (ρv x)) {id i : Nat} (e1 : ρ a = .pel id i) {l : List (List t'.den)} (e2 : σ[id]? = some (.arr (.list t') l true)) (hi : i < l.length)
    {id2 : Nat} {l2 : List t'.den} (e3 : ρ x = .own id2 0 l2.length) (e4 : σ[id2]? = some (.arr t' l2 true)) (hne : id ≠ id2) (h : K .undef ((σ.set id2 .gone).set id (.arr (.list t') (l.set i l2) true))) : Snd P m σ s ρv (.store t a x) K := by
  obtain ⟨h1, h2⟩ := hT t e ht
  rw [he] at h1
  rw [e1] at ha
  rw [e3] at hx
  obtain ⟨g, parts, k1, k2, k3, k4, k5, k6⟩ := (hS.obj id _ e2).rows
  obtain ⟨o2, O2, j1, j2, j3, j4⟩ := hS.obj id2 _ e4
  obtain ⟨o, q1, q2⟩ := ha.pel_inv (kind_arr e2)
  rw [k1] at q1
  injection q1 with q1
  subst q1
  obtain ⟨o3, q3, q4⟩ := hx.own_inv (kind_arr e4)
  rw [j1] at q3
  injection q3 with q3
  subst q3
  rw [Nat.zero_mul] at q4
  have hi2 : i < parts.length := by rw [← k4.length]; exact hi
  have sh1 := Ow.all_sh (G := fun _ _ => True) k4 fun _ _ => trivial
  have hc : (ρv x).cells = [.sl (m.ι id2).1 (m.ι id2).2 o2.g 0 l2.length] := by rw [q4]; rfl
  have hz : (Ty.list t').z = 1 := rfl
  have hop := opE_store (e := ⟨.list t', e.d, e.bytes⟩) (s := s) h1 q2 (show m.H.ob (m.ι id).1 (m.ι id).2 = some _ from k1) rfl (by rw [hc]; rfl) (by
    simp only
    rw [sh1.cells, ← Nat.succ_mul]; exact Nat.mul_le_mul_right _ hi) (by rw [hc]; rfl)
  simp only at hop
  rw [← flatten_set (parts.map (·.1)) i (ρv x).cells sh1.chunk (by rw [hc]; rfl) (by simpa using hi2), hc] at hop
  have hms : (parts.map (·.1)).set i [.sl (m.ι id2).1 (m.ι id2).2 o2.g 0 l2.length] = (parts.set i ([.sl (m.ι id2).1 (m.ι id2).2 o2.g 0 l2.length], O2)).map (·.1) := by rw [List.map_set]
  rw [hms] at hop
  generalize hnp : parts.set i ([.sl (m.ι id2).1 (m.ι id2).2 o2.g 0 l2.length], O2) = np at hop
  have hput := Heap.ob_put (show m.H.ob (m.ι id).1 (m.ι id).2 = some _ from k1) ⟨g, (Ty.list t').z, (np.map (·.1)).flatten⟩
  have hall : All2 (fun x p => Ow m.H (.list t') x p.1 p.2) (l.set i l2) np := by
    rw [← hnp]; exact k4.set i j2
  have hsub : ∀ q ∈ (np.map (·.2)).flatten, q ∈ (parts.map (·.2)).flatten ∨ q ∈ O2 := fun q hq => by
    simp only [List.mem_flatten, List.mem_map] at hq ⊢
    obtain ⟨_, ⟨p, hp, rfl⟩, hq⟩ := hq
    rw [← hnp] at hp
    rcases List.mem_or_eq_of_mem_set hp with hp | rfl
    · exact .inl ⟨p.2, ⟨p, hp, rfl⟩, hq⟩
    · exact .inr hq
  have hd : ∀ q ∈ (np.map (·.2)).flatten, q ≠ m.ι id := fun q hq c => by
    rcases hsub q hq with hq | hq
    · exact (List.nodup_cons.1 k5).1 (c ▸ hq)
    · have := j4 q hq
      rw [c, k2] at this
      injection this with this
      exact hne (by omega)
  have hnd : ((np.map (·.2)).flatten).Nodup := by
    rw [← hnp, List.map_set, List.set_eq_take_append_cons_drop]
    rw [if_pos (by simpa using hi2)]
    have hsp : (parts.map (·.2)).flatten = ((parts.map (·.2)).take i).flatten ++ ((parts.map (·.2)).drop i).flatten := by rw [← List.flatten_append, List.take_append_drop]
    have hk5 := (List.nodup_cons.1 k5).2
    rw [hsp] at hk5
    obtain ⟨n1, n2, n3⟩ := List.nodup_append.1 hk5
    have hdr : ((parts.map (·.2)).drop (i + 1)).flatten.Sublist ((parts.map (·.2)).drop i).flatten := by
      rw [List.drop_eq_getElem_cons (l := parts.map (·.2)) (i := i) (by simpa using hi2), List.flatten_cons]
      exact List.sublist_append_right _ _
    have hin1 : ∀ q ∈ ((parts.map (·.2)).take i).flatten, m.F q.1 q.2 = some (id + 1) := fun q hq => k6 q (by rw [hsp]; simp [hq])
    have hin2 : ∀ q ∈ ((parts.map (·.2)).drop (i + 1)).flatten, m.F q.1 q.2 = some (id + 1) := fun q hq => k6 q (by rw [hsp]; exact List.mem_append.2 (.inr (hdr.subset hq)))
    have hx2 : ∀ q, m.F q.1 q.2 = some (id + 1) → q ∉ O2 := fun q h1 h2 => by
      rw [j4 q h2] at h1
      injection h1 with h1
      exact hne (by omega)
    simp only [List.flatten_append, List.flatten_cons]
    refine List.nodup_append.2 ⟨n1, List.nodup_append.2 ⟨j3, n2.sublist hdr, fun a ha b hb c => ?_⟩, fun a ha b hb c => ?_⟩
    · subst c; exact hx2 a (hin2 a hb) ha
    · subst c
      rcases List.mem_append.1 hb with hb | hb
      · exact hx2 a (hin1 a ha) hb
      · exact n3 a ha a (hdr.subset hb) rfl
  have hF : ∀ q ∈ (np.map (·.2)).flatten, ∃ k ∈ [id, id2], m.F q.1 q.2 = some (k + 1) := fun q hq => by
    rcases hsub q hq with hq | hq
    · exact ⟨id, by simp, k6 q hq⟩
    · exact ⟨id2, by simp, j4 q hq⟩
  have hkeep : ∀ q ∈ (np.map (·.2)).flatten, (m.H.put (m.ι id).1 (m.ι id).2 ⟨g, (Ty.list t').z, (np.map (·.1)).flatten⟩).ob q.1 q.2 = m.H.ob q.1 q.2 := fun q hq => by
    rw [hput, if_neg (fun c => hd q hq (Prod.ext c.1 c.2))]
  obtain ⟨r1, r2, r3⟩ := set_step hS hs (o' := .arr (.list t') (l.set i l2) true) e2 rfl [id2] (by simpa using hne) (m.ι id :: (np.map (·.2)).flatten) [] (m.H.put (m.ι id).1 (m.ι id).2 ⟨g, (Ty.list t').z, (np.map (·.1)).flatten⟩)
    (fun q hq => by
      rcases List.mem_cons.1 hq with rfl | hq
      · exact ⟨id, by simp, k2⟩
      · exact hF q hq) (fun q hq => by simp at hq)
    (fun t j hh => by
      rw [hput, if_neg]
      rintro ⟨rfl, rfl⟩
      exact hh id k2 (by simp))
    (fun o ho => by
      rw [k1] at ho; injection ho with ho; subst ho
      exact ⟨⟨g, (Ty.list t').z, (np.map (·.1)).flatten⟩, by rw [hput]; simp, rfl⟩)
    (fun kp => by
      refine ⟨⟨g, (Ty.list t').z, (np.map (·.1)).flatten⟩, m.ι id :: (np.map (·.2)).flatten, by simp only [MS.at, reι, if_true, hput, and_self], .inr ⟨(m.ι id).1, (m.ι id).2, g, np, ?_, ?_, rfl, by simpa using k3, ?_⟩, ?_, fun p hp => ?_⟩
      · simp [reι]
      · simp only [hput, and_self, if_true]
      · refine hall.mono fun x p _ hpp k => k.keep fun q hq => hkeep q ?_
        simp only [List.mem_flatten, List.mem_map]
        exact ⟨p.2, ⟨p, hpp, rfl⟩, hq⟩
      · exact List.nodup_cons.2 ⟨fun c => hd _ c rfl, hnd⟩
      · simp only [reF, if_pos hp])
    (fun q hq => by
      rcases hq with hq | hq
      · rcases List.mem_cons.1 hq with rfl | hq
        · exact ⟨⟨g, (Ty.list t').z, (np.map (·.1)).flatten⟩, by rw [hput]; simp⟩
        · rw [hkeep q hq]
          obtain ⟨k, _, hk⟩ := hF q hq
          exact hS.dom _ _ _ hk
      · simp at hq)
  exact ⟨_, _, hop, .undef, _, _, rfl, ⟨r1, r2, r3, .undef _⟩, h⟩
theorem storeVar_sound (hT : TabOk P tab) (hS : St m σ) (hs : m.H s = []) {t : TypeId} {e : TE} (ht : look tab t = some e) {a x : Operand} (ha : VT m σ (ρ a) (ρv a)) (hx : VT m σ (ρ x) (ρv x)) {id k : Nat} (e1 : ρ a = .pcell id k) {vs : List V} (e2 : σ[id]? = some (.vars vs)) (hl : (ρ x).cells.all (liveV σ) = true) (hz : (ρ x).cells.length = e.ty.z) (hk : k + e.ty.z ≤ vs.length)
    (h : K .undef (σ.set id (.vars (vs.take k ++ (ρ x).cells ++ vs.drop (k + e.ty.z))))) : Snd P m σ s ρv (.store t a x) K := by
  obtain ⟨h1, h2⟩ := hT t e ht
  rw [e1] at ha
  obtain ⟨g, z, as, k1, k2, k3⟩ := hS.obj id _ e2
  obtain ⟨o, q1, q2⟩ := ha.pcell_inv (kind_vars e2)
  rw [k1] at q1
  injection q1 with q1
  subst q1
  obtain ⟨c1, c2⟩ := hx.cells hl
  have hop := opE_store (s := s) h1 q2 (show m.H.ob (m.ι id).1 (m.ι id).2 = some _ from k1) rfl (by rw [← c1.length]; exact hz) (by simp only; rw [← k3.length]; exact hk) c2
  simp only at hop
  have hput := Heap.ob_put (show m.H.ob (m.ι id).1 (m.ι id).2 = some _ from k1) ⟨g, z, as.take k ++ (ρv x).cells ++ as.drop (k + e.ty.z)⟩
  obtain ⟨r1, r2, r3⟩ := set_step hS hs (o' := .vars (vs.take k ++ (ρ x).cells ++ vs.drop (k + e.ty.z))) e2 rfl [] (by simp) [m.ι id] [] (m.H.put (m.ι id).1 (m.ι id).2 ⟨g, z, as.take k ++ (ρv x).cells ++ as.drop (k + e.ty.z)⟩)
    (fun q hq => by simp at hq; subst hq; exact ⟨id, by simp, k2⟩) (fun q hq => by simp at hq)
    (fun t j hh => by
      rw [hput, if_neg]
      rintro ⟨rfl, rfl⟩
      exact hh id k2 (by simp))
    (fun o ho => by
      rw [k1] at ho; injection ho with ho; subst ho
      exact ⟨⟨g, z, as.take k ++ (ρv x).cells ++ as.drop (k + e.ty.z)⟩, by rw [hput]; simp, rfl⟩)
    (fun kp => ⟨g, z, as.take k ++ (ρv x).cells ++ as.drop (k + e.ty.z), by simp only [MS.at, reι, if_true, hput, and_self], by simp [reι, reF], (((k3.take k).append c1).append (k3.drop _)).keep kp⟩)
    (fun q hq => by
      rcases hq with hq | hq
      · simp at hq; subst hq; exact ⟨⟨g, z, as.take k ++ (ρv x).cells ++ as.drop (k + e.ty.z)⟩, by rw [hput]; simp⟩
      · simp at hq)
  exact ⟨_, _, hop, .undef, _, _, rfl, ⟨r1, r2, r3, .undef _⟩, h⟩
theorem store_sound (hT : TabOk P tab) (hS : St m σ) (hs : m.H s = []) {t : TypeId} {e : TE} (ht : look tab t = some e) {a x : Operand} (ha : VT m σ (ρ a) (ρv a)) (hx : VT m σ (ρ x) (ρv x)) (h : storeT σ e (ρ a) (ρ x) K) : Snd P m σ s ρv (.store t a x) K := by
  unfold storeT at h
  split at h
  · rename_i id i e1
    split at h
    · rename_i t' e2
      obtain ⟨id2, n, l2, ls, e4, e5, rfl, hne, e6, hi, h⟩ := h
      exact storeRow_sound hT hS hs ht e2 ha hx e1 e6 hi e4 e5 hne h
    · obtain ⟨hf, ls, u, e2, hi, h⟩ := h
      exact storeFlat_sound hT hS hs ht ha hx e1 rfl e2 hf hi h
  · rename_i id k e1
    split at h
    · rename_i vs e2
      exact storeVar_sound hT hS hs ht ha hx e1 e2 h.1 h.2.1 (Nat.le_of_ble_eq_true h.2.2.1) h.2.2.2
    · exact h.elim
  · exact h.elim
end
end Go.Proofs.YtbcdcbamdahnpaaTv
end
section
/- TV, part N: all operations are sound. -/
namespace Go.Proofs.YtbcdcbamdahnpaaTv
open Go.Proofs.YtbcdcbamdahnpaaVe
section
variable {P : Program} {tab : List (Nat × TE)} {m : MS} {σ : List Obj} {s : Nat} {ρ : Operand → V} {ρv : Operand → AV} {K : V → List Obj → Prop}
theorem tab_d (hT : TabOk P tab) {t : TypeId} {e : TE} (ht : look tab t = some e) : ti P t = some ⟨e.d, e.ty.z, e.bytes, zeroA e.ty⟩ := (hT t e ht).1
theorem tab_str (hT : TabOk P tab) {t : TypeId} {e : TE} (ht : look tab t = some e) (he : e.ty = .str) : e.d = .str := by
  have h := (hT t e ht).2
  unfold dOk at h
  rw [he] at h
  cases hd : e.d <;> simp_all
theorem tab_bool (hT : TabOk P tab) {t : TypeId} {e : TE} (ht : look tab t = some e) (he : e.ty = .bool) : e.d = .bool := by
  have h := (hT t e ht).2
  unfold dOk at h
  rw [he] at h
  cases hd : e.d <;> simp_all
theorem VT.list_inv {t : Ty} {x : List t.den} {a : AV} (h : VT m σ (.val (.list t) x) a) : Sh m.fz m.H (.list t) x [a] := by
  cases h with
  | val _ _ _ hs => exact hs
theorem Sh.list_inv {G : Nat → Nat → Prop} {H : Heap} {t : Ty} {l : List t.den} {a : AV} (h : Sh G H (.list t) l [a]) : ∃ ch, isSl a = true ∧ lenA a = some l.length ∧ rowA H t.z a = some ch.flatten ∧ inG G a ∧ (l.length : Int) ≤ huge ∧ All2 (fun x c => Sh G H t x c) l ch := by
  obtain ⟨b, ch, e, h1, h2, h3, h4, h5, h6⟩ := h
  injection e with e _
  subst e
  exact ⟨ch, h1, h2, h3, h4, h5, h6⟩
theorem eqA_neq {x : Bool} {op : BinOp} {t u : TypeId} {p q : Operand} (hb : binA op (ρv p) (ρv q) = none) (h : eqA P t (ρv p) (ρv q) = some x) (ho : op = .eql ∨ op = .neq) : opE P s ρv m.H (.binOp op t p q u) = some (.bool (if op = .eql then x else !x), m.H) := by
  rcases ho with rfl | rfl <;> simp [opE, hb, cmpA, h]
theorem eqT_sound (hT : TabOk P tab) (hS : St m σ) {t : TypeId} {e : TE} (ht : look tab t = some e) {x y : V} {a b : AV} (hx : VT m σ x a) (hy : VT m σ y b) {k : Bool → Prop} (h : eqT σ e.ty x y k) : ∃ r, eqA P t a b = some r ∧ (∀ op, binA op a b = none) ∧ k r := by
  have h1 := tab_d hT ht
  unfold eqT at h
  split at h
  · rename_i p q he
    have hd := tab_bool hT ht he
    rw [hx.bool_inv, hy.bool_inv]
    refine ⟨_, ?_, fun op => by simp [binA], h⟩
    simp only [eqA, h1, hd]
  · rename_i t' t1 t2 he
    obtain ⟨el, e', k1, _⟩ := dOk_list (hT t e ht).2 he
    rw [hx.nil_inv, hy.nil_inv]
    refine ⟨_, ?_, fun op => by simp [binA], h⟩
    simp only [eqA, h1, k1]
  · rename_i t' id off n t2 he
    obtain ⟨el, e', k1, _⟩ := dOk_list (hT t e ht).2 he
    obtain ⟨o, o1, rfl⟩ := hx.own_inv h.1
    rw [hy.nil_inv]
    refine ⟨_, ?_, fun op => by simp [binA], h.2⟩
    simp only [eqA, h1, k1]
  · exact h.elim
theorem opBin_sound (hT : TabOk P tab) (hS : St m σ) {op : BinOp} {t u : TypeId} {x y : Operand} (hx : VT m σ (ρ x) (ρv x)) (hy : VT m σ (ρ y) (ρv y)) (h : opBin tab σ op t (ρ x) (ρ y) fun v => K v σ) : Snd P m σ s ρv (.binOp op t x y u) K := by
  unfold opBin at h
  split at h
  · exact shift_sound hS hx hy h
  · rename_i hsh
    have hsh' : isShift op = false := by simpa using hsh
    split at h
    · rename_i k a k' b e1 e2
      exact bin_sound hS hx hy hsh' h
    · rename_i a b e1 e2
      exact bin_sound hS hx hy hsh' h
    · split at h
      · rename_i e ht
        obtain ⟨r, r1, r2, r3⟩ := eqT_sound hT hS ht hx hy h
        exact Snd.same hS (eqA_neq (r2 _) r1 (.inl rfl)) (by simp; exact VT.bool r) r3
      · rename_i e ht
        obtain ⟨r, r1, r2, r3⟩ := eqT_sound hT hS ht hx hy h
        exact Snd.same hS (eqA_neq (r2 _) r1 (.inr rfl)) (by simp; exact VT.bool (!r)) r3
      · exact h.elim
theorem low_sound {q : Option Operand} {k : Int → Prop} (hq : ∀ p, q = some p → VT m σ (ρ p) (ρv p)) (h : lowT q ρ k) : ∃ l, lowA (q.map ρv) = some l ∧ k l := by
  cases q with
  | none => exact ⟨0, rfl, h⟩
  | some q =>
    obtain ⟨i, e, hk⟩ := h
    have := hq q rfl
    rw [e] at this
    exact ⟨i, by simp [lowA, this.int_inv], hk⟩
theorem high_sound {q : Option Operand} {n : Nat} {k : Int → Prop} (hq : ∀ p, q = some p → VT m σ (ρ p) (ρv p)) (h : highT q ρ n k) : ∃ l, highA n (q.map ρv) = some l ∧ k l := by
  cases q with
  | none => exact ⟨n, rfl, h⟩
  | some q =>
    obtain ⟨i, e, hk⟩ := h
    have := hq q rfl
    rw [e] at this
    exact ⟨i, by simp [highA, this.int_inv], hk⟩
theorem slice_sound (hT : TabOk P tab) (hS : St m σ) {t : TypeId} {x : Operand} {lo hi mx : Option Operand} (hρ : ∀ q ∈ (Op.slice t x lo hi mx).operands, VT m σ (ρ q) (ρv q)) (h : opT tab σ ρ (.slice t x lo hi mx) K) : Snd P m σ s ρv (.slice t x lo hi mx) K := by
  have hx : VT m σ (ρ x) (ρv x) := hρ x (by simp [Op.operands])
  have hlo : ∀ p, lo = some p → VT m σ (ρ p) (ρv p) := fun p hp => hρ p (by simp [Op.operands, hp])
  have hhi : ∀ p, hi = some p → VT m σ (ρ p) (ρv p) := fun p hp => hρ p (by simp [Op.operands, hp])
  unfold opT at h
  simp only at h
  split at h
  · rename_i e b ht e1
    obtain ⟨he, h⟩ := h
    have h1 := tab_d hT ht
    rw [tab_str hT ht he] at h1
    rw [e1] at hx
    obtain ⟨l, l1, h⟩ := low_sound hlo h
    obtain ⟨hh, h2, hb, h⟩ := high_sound hhi h
    refine Snd.same hS ?_ (VT.str _) h
    simp only [opE, h1, hx.str_inv, l1, h2]
    rw [if_pos (by simp only [okInts, decide_eq_true_eq]; exact hb)]
  · rename_i e t' xs ht e1
    obtain ⟨he, hne, h⟩ := h
    obtain ⟨el, d, b, by', k1, k2, k3, k4, k5, _⟩ := tab_list hT ht he
    rw [e1] at hx
    obtain ⟨ch, s1, s2, s3, s4, s5, s6⟩ := hx.list_inv.list_inv
    obtain ⟨l, l1, h⟩ := low_sound hlo h
    obtain ⟨hh, h2, hb, h⟩ := high_sound hhi h
    have hab : l.toNat + (hh - l).toNat ≤ List.length xs := by omega
    have hcl := s6.cells
    generalize hav : ρv x = av at *
    cases av <;> simp only [isSl, Bool.false_eq_true] at s1
    · simp only [lenA, Option.some.injEq] at s2; omega
    · rename_i n cs
      simp only [lenA, Option.some.injEq] at s2
      subst s2
      simp only [rowA] at s3
      split at s3
      · rename_i hc
        injection s3 with s3
        refine Snd.same hS (av := .fz (hh - l).toNat ((cs.drop (l.toNat * t'.z)).take ((hh - l).toNat * t'.z))) ?_ (.val (.list t') _ _ ⟨_, (ch.drop l.toNat).take (hh - l).toNat, rfl, rfl, ?_, ?_, trivial, ?_, (s6.drop _).take _⟩) h
        · simp only [opE, k1, hav, k2, l1, h2]
          rw [if_pos (by simp only [okInts, decide_eq_true_eq]; exact hb)]
        · simp only [lenA]; congr 1; simp; omega
        · have hcs : cs.length = List.length xs * t'.z := hc
          have e2 : ((cs.drop (l.toNat * t'.z)).take ((hh - l).toNat * t'.z)).length = (hh - l).toNat * t'.z := by
            rw [List.length_take, List.length_drop, hcs]
            have := Nat.mul_le_mul_right t'.z hab
            rw [Nat.add_mul] at this
            omega
          simp only [rowA]
          rw [if_pos e2, flatten_sub ch _ _ s6.chunk (by rw [← s6.length]; exact hab), ← s3]
          simp only [avs_map, List.map_take, List.map_drop]
        · have : ((List.drop l.toNat xs).take (hh - l).toNat).length ≤ List.length xs := by simp; omega
          omega
      · cases s3
    · rename_i S J g off n
      simp only [lenA, Option.some.injEq] at s2
      subst s2
      have hn0 : ¬ List.length xs = 0 := hne
      simp only [rowA, if_neg hn0] at s3
      split at s3
      · rename_i o ho
        split at s3
        · rename_i hc
          injection s3 with s3
          refine Snd.same hS (av := .sl S J g (off + l.toNat * t'.z) (hh - l).toNat) ?_ (.val (.list t') _ _ ⟨_, (ch.drop l.toNat).take (hh - l).toNat, rfl, rfl, ?_, ?_, fun hn => s4 hn0, ?_, (s6.drop _).take _⟩) h
          · simp only [opE, k1, hav, k2, l1, h2, ho]
            rw [if_pos ⟨by simp only [okInts, decide_eq_true_eq]; exact hb, hc.2.1⟩]
          · simp only [lenA]; congr 1; simp; omega
          · simp only [rowA]
            split
            · rename_i e0; simp [e0]
            · rw [ho]
              simp only
              have := Nat.mul_le_mul_right t'.z hab
              rw [Nat.add_mul] at this
              rw [if_pos ⟨hc.1, hc.2.1, by omega⟩, flatten_sub ch _ _ s6.chunk (by rw [← s6.length]; exact hab), ← s3, List.drop_take, List.take_take, List.drop_drop]
              congr 2
              omega
          · have : ((List.drop l.toNat xs).take (hh - l).toNat).length ≤ List.length xs := by simp; omega
            omega
        · cases s3
      · cases s3
  · rename_i e id off n ht e1
    rw [e1] at hx
    have fin : ∀ {t' : Ty}, kind σ id = some (some t') → (∃ o, m.at id = some o ∧ o.z = t'.z) → e.ty = .list t' → (lowT lo ρ fun l => highT hi ρ n fun h => (0 ≤ l ∧ l ≤ h ∧ h ≤ n) ∧ K (.own id (off + l.toNat) (h - l).toNat) σ) → Snd P m σ s ρv (.slice t x lo hi none) K := by
      intro t' hk ⟨o, o1, o2⟩ he h
      obtain ⟨el, d, b, by', k1, k2, k3, k4, k5, _⟩ := tab_list hT ht he
      obtain ⟨o', p1, p2⟩ := hx.own_inv hk
      rw [o1] at p1
      injection p1 with p1
      subst p1
      obtain ⟨l, l1, h⟩ := low_sound hlo h
      obtain ⟨hh, h2, hb, h⟩ := high_sound hhi h
      have hid : id < σ.length := by
        rcases Nat.lt_or_ge id σ.length with h1 | h1
        · exact h1
        · simp [kind, List.getElem?_eq_none h1] at hk
      refine Snd.same hS (av := .sl (m.ι id).1 (m.ι id).2 o.g (off * t'.z + l.toNat * t'.z) (hh - l).toNat) ?_ (.own _ _ _ _ hid fun t2 ht2 => ?_) h
      · simp only [opE, k1, p2, k2, l1, h2, show m.H.ob (m.ι id).1 (m.ι id).2 = _ from o1]
        rw [if_pos ⟨by simp only [okInts, decide_eq_true_eq]; exact hb, o2⟩]
      · rw [hk] at ht2
        injection ht2 with ht2
        injection ht2 with ht2
        subst ht2
        exact ⟨o, o1, by rw [Nat.add_mul]⟩
    split at h
    · rename_i t' l u e2
      obtain ⟨g, ch, q1, _⟩ := (hS.obj id _ e2).arr
      exact fin (kind_arr e2) ⟨_, q1, rfl⟩ h.1 h.2
    · rename_i t' l e2
      obtain ⟨g, ch, q1, _⟩ := (hS.obj id _ e2).frz
      exact fin (kind_frz e2) ⟨_, q1, rfl⟩ h.1 h.2
    · exact h.elim
  · exact h.elim
end
end Go.Proofs.YtbcdcbamdahnpaaTv
end
section
/- TV, part O: all operations are sound (the rest). -/
namespace Go.Proofs.YtbcdcbamdahnpaaTv
open Go.Proofs.YtbcdcbamdahnpaaVe
section
variable {P : Program} {tab : List (Nat × TE)} {m : MS} {σ : List Obj} {s : Nat} {ρ : Operand → V} {ρv : Operand → AV} {K : V → List Obj → Prop}
theorem idx_val {t : TypeId} {t' : Ty} {el b : Nat} {zs : List AV} {d : TD} {by' : Nat} (h1 : ti P t = some ⟨.sl el, 1, b, zs⟩) (h2 : ti P el = some ⟨d, t'.z, by', zeroA t'⟩) {G : Nat → Nat → Prop} {H : Heap} {x q : Operand} {l : List t'.den} {k : IntKind} {i : Int} (hx : Sh G H (.list t') l [ρv x]) (hq : ρv q = .int k i) (h0 : 0 ≤ i) (hi : i < (l.length : Int)) :
    ∃ p c, opE P s ρv H (.indexAddr t x q) = some (p, H) ∧ loadA H t'.z p = some c ∧ Sh G H t' (rdT t' l i) c ∧ ∀ s' j g off, p = .ptr s' j g off → G s' j := by
  obtain ⟨ch, s1, s2, s3, s4, s5, s6⟩ := hx.list_inv
  have hin : i.toNat < l.length := by omega
  obtain ⟨c, hc, hs⟩ := s6.get (rdT_get t' l i hin)
  have hcl := s6.cells
  have h3 := flatten_sub ch i.toNat 1 s6.chunk (by rw [← s6.length]; exact hin)
  rw [Nat.one_mul] at h3
  have h4 : (ch.drop i.toNat).take 1 = [c] := by
    obtain ⟨h5, h6⟩ := List.getElem?_eq_some_iff.1 hc
    rw [List.drop_eq_getElem_cons h5, h6]; simp
  rw [h4] at h3
  simp only [List.flatten_cons, List.flatten_nil, List.append_nil] at h3
  have hm : i.toNat * t'.z + t'.z ≤ ch.flatten.length := by
    rw [hcl, ← Nat.succ_mul]; exact Nat.mul_le_mul_right _ hin
  generalize hav : ρv x = av at *
  cases av <;> simp only [isSl, Bool.false_eq_true] at s1
  · simp only [lenA, Option.some.injEq] at s2; omega
  · rename_i n cs
    simp only [lenA, Option.some.injEq] at s2
    subst s2
    simp only [rowA] at s3
    split at s3
    · rename_i hcs
      injection s3 with s3
      refine ⟨.fptr (cs.drop (i.toNat * t'.z)), c, by simp [opE, h1, hav, hq, h2, idxOf, h0, hi], ?_, hs, fun _ _ _ _ e => by cases e⟩
      have e1 : cs.length = ch.flatten.length := by rw [hcl]; exact hcs
      simp only [loadA]
      rw [if_pos (by rw [List.length_drop, e1]; omega), h3, ← s3]
      simp only [avs_map, List.map_take, List.map_drop]
    · cases s3
  · rename_i S J g off n
    simp only [lenA, Option.some.injEq] at s2
    subst s2
    have hn0 : ¬ l.length = 0 := by omega
    simp only [rowA, if_neg hn0] at s3
    split at s3
    · rename_i o ho
      split at s3
      · rename_i hcs
        injection s3 with s3
        refine ⟨.ptr S J g (off + i.toNat * t'.z), c, by simp [opE, h1, hav, hq, h2, idxOf, h0, hi], ?_, hs, fun s' j g' off' e => by injection e with e1 e2; subst e1; subst e2; exact s4 hn0⟩
        have h7 : i.toNat * t'.z + t'.z ≤ l.length * t'.z := by rw [← Nat.succ_mul]; exact Nat.mul_le_mul_right _ hin
        simp only [loadA, ho]
        rw [if_pos ⟨hcs.1, by omega⟩, h3, ← s3, List.drop_take, List.take_take, List.drop_drop]
        congr 2
        omega
      · cases s3
    · cases s3
theorem kind_lt {id : Nat} {κ : Option Ty} (h : kind σ id = some κ) : id < σ.length := by
  rcases Nat.lt_or_ge id σ.length with h1 | h1
  · exact h1
  · simp [kind, List.getElem?_eq_none h1] at h
theorem indexAddr_sound (hT : TabOk P tab) (hS : St m σ) {t : TypeId} {x i : Operand} (hx : VT m σ (ρ x) (ρv x)) (hi : VT m σ (ρ i) (ρv i)) (h : opT tab σ ρ (.indexAddr t x i) K) : Snd P m σ s ρv (.indexAddr t x i) K := by
  unfold opT at h
  simp only at h
  split at h
  · rename_i e t' xs k iv ht e1 e2
    obtain ⟨he, hb, h⟩ := h
    obtain ⟨el, d, b, by', k1, k2, _⟩ := tab_list hT ht he
    rw [e1] at hx
    rw [e2] at hi
    obtain ⟨p, c, p1, p2, p3, p4⟩ := idx_val (s := s) k1 k2 hx.list_inv hi.int_inv hb.1 hb.2
    refine Snd.same hS p1 (.pv _ _ c ?_ p4 p3.cells) h
    rw [cellsT_length]; exact p2
  · rename_i e id off n k iv ht e1 e2
    obtain ⟨hk, hl, hb, h⟩ := h
    rw [e1] at hx
    rw [e2] at hi
    cases het : e.ty with
    | list t' =>
      rw [het] at hk
      simp only at hk
      obtain ⟨el, d, b, by', k1, k2, _⟩ := tab_list hT ht het
      obtain ⟨o, o1, o2⟩ := hx.own_inv hk
      refine Snd.same hS (av := .ptr (m.ι id).1 (m.ι id).2 o.g (off * t'.z + iv.toNat * t'.z)) (by simp [opE, k1, o2, hi.int_inv, k2, idxOf, hb.1, hb.2]) (.pel _ _ _ (kind_lt hk) fun t2 ht2 => ?_) h
      rw [hk] at ht2
      injection ht2 with ht2
      injection ht2 with ht2
      subst ht2
      exact ⟨o, o1, by rw [Nat.add_mul]⟩
    | _ => rw [het] at hl; exact hl.elim
  · rename_i T n el b id k k' iv ht e1 e2
    split at h
    · rename_i e' ht'
      obtain ⟨hk, hb, h⟩ := h
      have h1 := tab_d hT ht
      have h2 := tab_d hT ht'
      rw [e1] at hx
      rw [e2] at hi
      obtain ⟨o, o1, o2⟩ := hx.pcell_inv hk
      refine Snd.same hS (av := .ptr (m.ι id).1 (m.ι id).2 o.g (k + iv.toNat * e'.ty.z)) (by simp [opE, h1, o2, hi.int_inv, h2, idxOf, hb.1, hb.2]) (.pcell _ _ _ (kind_lt hk) fun _ => ⟨o, o1, rfl⟩) h
    · exact h.elim
  · exact h.elim
theorem index_sound (hT : TabOk P tab) (hS : St m σ) {t : TypeId} {x i : Operand} (hx : VT m σ (ρ x) (ρv x)) (hi : VT m σ (ρ i) (ρv i)) (h : opT tab σ ρ (.index t x i) K) : Snd P m σ s ρv (.index t x i) K := by
  unfold opT at h
  simp only at h
  split at h
  · rename_i e b k iv ht e1 e2
    obtain ⟨he, hb, h⟩ := h
    have h1 := tab_d hT ht
    rw [tab_str hT ht he] at h1
    rw [e1] at hx
    rw [e2] at hi
    have hlt : Int.toNat iv < b.data.size := by
      have h1 : ∀ (i : Int) (n : Nat), 0 ≤ i ∧ i < n → i.toNat < n := fun i n h => by omega
      exact h1 _ _ hb
    refine Snd.same hS (av := .int .u8 (byteAt b iv)) ?_ (VT.int _) h
    simp only [opE, h1, hx.str_inv, hi.int_inv, idxOf]
    rw [if_pos hb]
    simp [byteAt, Array.getElem?_eq_getElem hlt]
  · exact h.elim
theorem fillV_sound {place : Nat → Option (Nat × Nat)} : ∀ {ps : List (Nat × V)} {qs : List (Nat × AV)} {cs : List V} {as : List AV} {k : List V → Prop}, fillV σ place cs ps k → ps.map (·.1) = qs.map (·.1) → VTL m σ (ps.map (·.2)) (qs.map (·.2)) → VTL m σ cs as → ∃ cs' as', fillA place as qs = some as' ∧ VTL m σ cs' as' ∧ k cs'
  | [], [], cs, as, k, h, _, _, hc => ⟨cs, as, rfl, hc, h⟩
  | [], _ :: _, _, _, _, _, e, _, _ => by simp at e
  | _ :: _, [], _, _, _, _, e, _, _ => by simp at e
  | (i, v) :: ps, (i', a) :: qs, cs, as, k, h, e, hv, hc => by
    simp only [List.map_cons, List.cons.injEq] at e hv
    obtain ⟨rfl, e⟩ := e
    cases hv with
    | cons _ _ _ _ v1 v2 =>
      unfold fillV at h
      split at h
      · exact h.elim
      · rename_i off size hp
        obtain ⟨h1, h2, h3, h4⟩ := h
        have h3 := Nat.le_of_ble_eq_true h3
        obtain ⟨c1, c2⟩ := v1.cells h1
        have hl := c1.length
        obtain ⟨cs', as', f1, f2, f3⟩ := fillV_sound h4 e v2 (((hc.take off).append c1).append (hc.drop (off + v.cells.length)))
        refine ⟨cs', as', ?_, f2, f3⟩
        simp only [fillA, hp]
        have hok : a.ok = true := by
          cases a <;> simp_all [AV.ok, AV.cells]
          simp [AV.isCell] at c2
        rw [if_neg (by rw [← hl, ← hc.length]; simp [hok]; omega), ← hl]
        exact f1
theorem VTL.map {l : List Operand} (h : ∀ q ∈ l, VT m σ (ρ q) (ρv q)) : VTL m σ (l.map ρ) (l.map ρv) := by
  induction l with
  | nil => exact .nil
  | cons q l ih => exact .cons _ _ _ _ (h q (by simp)) (ih fun p hp => h p (by simp [hp]))
theorem parts_vtl {ps : Array (Nat × Operand)} (h : ∀ p ∈ ps.toList, VT m σ (ρ p.2) (ρv p.2)) : VTL m σ (ps.toList.map fun p => ρ p.2) (ps.toList.map fun p => ρv p.2) := by
  have := VTL.map (ρ := ρ) (ρv := ρv) (l := ps.toList.map (·.2)) (m := m) (σ := σ) fun q hq => by
    obtain ⟨p, hp, rfl⟩ := List.mem_map.1 hq
    exact h p hp
  simpa [List.map_map, Function.comp_def] using this
theorem copy_sound (hT : TabOk P tab) (hS : St m σ) (hs : m.H s = []) {t u : TypeId} {e e' : TE} {t' : Ty} (ht : look tab t = some e) (he : e.ty = .list t') (hu : look tab u = some e') (he' : e'.ty = .list t') (hf : t'.flat = true) {p q : Operand} {ts : Array TypeId} (hts : ts.toList = [t, u]) {as : Array Operand} (has : as.toList = [p, q])
    (hp : VT m σ (ρ p) (ρv p)) (hq : VT m σ (ρ q) (ρv q)) {id off n : Nat} (e1 : ρ p = .own id off n)
    (h : Rd σ t' (ρ q) fun xs => ∃ l u, σ[id]? = some (.arr t' l u) ∧ off + n ≤ l.length ∧ K (.i (min xs.length n : Nat)) (σ.set id (.arr t' (l.take off ++ xs.take (min xs.length n) ++ l.drop (off + min xs.length n)) u))) : Snd P m σ s ρv (.call ⟨.builtin .copy, as, ts⟩) K := by
  obtain ⟨el, d, b, by', k1, k2, k3, k4, k5, _⟩ := tab_list hT ht he
  obtain ⟨el2, d2, b2, by2, j1, _⟩ := tab_list hT hu he'
  obtain ⟨xs, ⟨l, uu, e2, hn, h⟩, hsh⟩ := Rd_sound hS h hq
  obtain ⟨chx, s1, s2, s3, s4, s5, s6⟩ := hsh.list_inv
  obtain ⟨g, ch, o1, o2, o3, o4⟩ := (hS.obj id _ e2).arr
  rw [e1] at hp
  obtain ⟨o, q1, q2⟩ := hp.own_inv (kind_arr e2)
  rw [o1] at q1
  injection q1 with q1
  subst q1
  have hall : chx.flatten.all AV.isCell = true := by
    refine List.all_eq_true.2 fun a ha => ?_
    obtain ⟨c, hc, hac⟩ := List.mem_flatten.1 ha
    obtain ⟨i, hi⟩ := List.mem_iff_getElem?.1 hc
    have hi2 : i < xs.length := by rw [s6.length]; exact (List.getElem?_eq_some_iff.1 hi).1
    obtain ⟨y, hy, hs'⟩ := s6.get (List.getElem?_eq_getElem hi2)
    rw [hi] at hy; injection hy with hy; subst hy
    exact hs'.isCell a hac
  generalize hmn : min xs.length n = mn at *
  have hm1 : mn ≤ xs.length := by omega
  have hm2 : mn ≤ n := by omega
  have hnew : ch.flatten.take (off * t'.z) ++ chx.flatten.take (mn * t'.z) ++ ch.flatten.drop (off * t'.z + mn * t'.z) = (ch.take off ++ chx.take mn ++ ch.drop (off + mn)).flatten := by
    have f1 := flatten_sub ch 0 off o2.chunk (by rw [← o2.length]; omega)
    have f2 := flatten_sub chx 0 mn s6.chunk (by rw [← s6.length]; omega)
    have f3 := flatten_sub ch (off + mn) (ch.length - (off + mn)) o2.chunk (by rw [← o2.length]; omega)
    simp only [List.drop_zero, Nat.zero_mul] at f1 f2
    rw [List.take_of_length_le (by simp)] at f3
    rw [List.take_of_length_le (l := ch.flatten.drop _) (by
      rw [List.length_drop, o2.cells, o2.length, Nat.sub_mul]; exact Nat.le_refl _)] at f3
    simp only [List.flatten_append]
    rw [f1, f2, f3, Nat.add_mul]
  have hop : opE P s ρv m.H (.call ⟨.builtin .copy, as, ts⟩) = some (.int .i64 mn, m.H.put (m.ι id).1 (m.ι id).2 ⟨g, t'.z, (ch.take off ++ chx.take mn ++ ch.drop (off + mn)).flatten⟩) := by
    simp only [opE, hts, has, List.map, builtinA, k1, j1, k2, q2, s3, s2, show m.H.ob (m.ι id).1 (m.ι id).2 = _ from o1]
    rw [if_pos ⟨trivial, trivial, s6.cells, by rw [o2.cells, ← Nat.add_mul]; exact Nat.mul_le_mul_right _ hn, hall⟩, hmn, hnew]
  have hput := Heap.ob_put (show m.H.ob (m.ι id).1 (m.ι id).2 = some _ from o1) ⟨g, t'.z, (ch.take off ++ chx.take mn ++ ch.drop (off + mn)).flatten⟩
  obtain ⟨r1, r2, r3⟩ := set_step hS hs (o' := .arr t' (l.take off ++ xs.take mn ++ l.drop (off + mn)) uu) e2 rfl [] (by simp) [m.ι id] [] (m.H.put (m.ι id).1 (m.ι id).2 ⟨g, t'.z, (ch.take off ++ chx.take mn ++ ch.drop (off + mn)).flatten⟩)
    (fun q hq => by simp at hq; subst hq; exact ⟨id, by simp, o4⟩) (fun q hq => by simp at hq)
    (fun t j hh => by
      rw [hput, if_neg]
      rintro ⟨rfl, rfl⟩
      exact hh id o4 (by simp))
    (fun o ho => by
      rw [o1] at ho; injection ho with ho; subst ho
      exact ⟨⟨g, t'.z, (ch.take off ++ chx.take mn ++ ch.drop (off + mn)).flatten⟩, by rw [hput]; simp, rfl⟩)
    (fun kp => OT.of_flat (G := anyF m) (H := m.H) (g := g) (ch := ch.take off ++ chx.take mn ++ ch.drop (off + mn)) hf (by simp only [MS.at, reι, if_true, hput, and_self]) (by simp [reι, reF])
      (by have : (l.take off ++ xs.take mn ++ l.drop (off + mn)).length = l.length := by simp; omega
          rw [this]; exact o3) (((o2.take off).append (s6.take mn)).append (o2.drop _)))
    (fun q hq => by
      rcases hq with hq | hq
      · simp at hq; subst hq; exact ⟨⟨g, t'.z, (ch.take off ++ chx.take mn ++ ch.drop (off + mn)).flatten⟩, by rw [hput]; simp⟩
      · simp at hq)
  exact ⟨_, _, hop, _, _, _, rfl, ⟨r1, r2, r3, VT.int _⟩, h⟩
theorem len_sound (hT : TabOk P tab) (hS : St m σ) {t : TypeId} {q : Operand} {as : Array Operand} {ts : Array TypeId} (has : as.toList = [q]) (hts : ts.toList = [t]) (hq : VT m σ (ρ q) (ρv q)) (h : builtinT tab σ .len [t] [ρ q] K) : Snd P m σ s ρv (.call ⟨.builtin .len, as, ts⟩) K := by
  unfold builtinT at h
  simp only at h
  have key : ∀ {n : Nat}, builtinA P s m.H .len [t] [ρv q] = some (.int .i64 n, m.H) → K (.i n) σ → Snd P m σ s ρv (.call ⟨.builtin .len, as, ts⟩) K := fun hb hk =>
    Snd.same hS (by simp only [opE, has, hts, List.map]; exact hb) (VT.int _) hk
  split at h
  · rename_i e b ht e1
    have h1 := tab_d hT ht
    rw [tab_str hT ht h.1] at h1
    rw [e1] at hq
    exact key (by simp only [builtinA, h1, hq.str_inv]) h.2
  · rename_i e t' l ht e1
    obtain ⟨el, d, b, by', k1, _⟩ := tab_list hT ht h.1
    rw [e1] at hq
    obtain ⟨ch, s1, s2, _⟩ := hq.list_inv.list_inv
    generalize hav : ρv q = av at *
    cases av <;> simp only [isSl, Bool.false_eq_true] at s1 <;> simp only [lenA, Option.some.injEq] at s2 <;> exact key (n := List.length l) (by simp [builtinA, k1, ← s2]) h.2
  · rename_i e t2 ht e1
    obtain ⟨hl, h⟩ := h
    rw [e1] at hq
    cases het : e.ty with
    | list t' =>
      obtain ⟨el, d, b, by', k1, _⟩ := tab_list hT ht het
      exact key (n := 0) (by simp [builtinA, k1, hq.nil_inv]) h
    | _ => rw [het] at hl; exact hl.elim
  · rename_i e id off n ht e1
    obtain ⟨hk, hl, h⟩ := h
    rw [e1] at hq
    cases het : e.ty with
    | list t' =>
      rw [het] at hk
      simp only at hk
      obtain ⟨el, d, b, by', k1, _⟩ := tab_list hT ht het
      obtain ⟨o, o1, o2⟩ := hq.own_inv hk
      exact key (by simp only [builtinA, k1, o2]) h
    | _ => rw [het] at hl; exact hl.elim
  · exact h.elim
end
end Go.Proofs.YtbcdcbamdahnpaaTv
end
section
/- TV, part Q: every operation is sound. -/
namespace Go.Proofs.YtbcdcbamdahnpaaTv
open Go.Proofs.YtbcdcbamdahnpaaVe
section
variable {P : Program} {tab : List (Nat × TE)} {m : MS} {σ : List Obj} {s : Nat} {ρ : Operand → V} {ρv : Operand → AV} {K : V → List Obj → Prop}
theorem builtin_sound (hT : TabOk P tab) (hS : St m σ) (hs : m.H s = []) {b : Builtin} {as : Array Operand} {ts : Array TypeId} (hρ : ∀ q ∈ as.toList, VT m σ (ρ q) (ρv q)) (h : builtinT tab σ b ts.toList (as.toList.map ρ) K) : Snd P m σ s ρv (.call ⟨.builtin b, as, ts⟩) K := by
  generalize hts : ts.toList = tl at h
  generalize has : as.toList.map ρ = vl at h
  have h0 := h
  unfold builtinT at h
  split at h
  · rename_i t v K'
    match hal : as.toList, has with
    | [q], has =>
      simp only [List.map_cons, List.map_nil, List.cons.injEq, and_true] at has
      subst has
      exact len_sound hT hS hal hts (hρ q (by simp [hal])) h0
  · rename_i k a k' b' K' hx
    have hl2 : as.toList.length = 2 := by rw [← List.length_map (f := ρ), has]; rfl
    match hal : as.toList, has, hl2 with
    | [p, q], has, _ =>
      simp only [List.map_cons, List.map_nil, List.cons.injEq, and_true] at has
      obtain ⟨rfl, h⟩ := h
      have hp := hρ p (by simp [hal])
      have hq := hρ q (by simp [hal])
      rw [has.1] at hp
      rw [has.2] at hq
      exact Snd.same hS (by simp only [opE, hal, hts, List.map, builtinA, hp.int_inv, hq.int_inv]; rfl) (VT.int _) h
  · rename_i k a k' b' K' hx
    have hl2 : as.toList.length = 2 := by rw [← List.length_map (f := ρ), has]; rfl
    match hal : as.toList, has, hl2 with
    | [p, q], has, _ =>
      simp only [List.map_cons, List.map_nil, List.cons.injEq, and_true] at has
      obtain ⟨rfl, h⟩ := h
      have hp := hρ p (by simp [hal])
      have hq := hρ q (by simp [hal])
      rw [has.1] at hp
      rw [has.2] at hq
      exact Snd.same hS (by simp only [opE, hal, hts, List.map, builtinA, hp.int_inv, hq.int_inv]; rfl) (VT.int _) h
  · rename_i t u a x K'
    match hal : as.toList, has with
    | [p, q], has =>
      simp only [List.map_cons, List.map_nil, List.cons.injEq, and_true] at has
      obtain ⟨rfl, rfl⟩ := has
      have hp := hρ p (by simp [hal])
      have hq := hρ q (by simp [hal])
      split at h
      · rename_i e e' ht hu
        split at h
        · rename_i t' he
          obtain ⟨he', h⟩ := h
          split at h
          · rename_i hf
            exact appFlat_sound hT hS hs ht he hu he' hts hal hp hq hf h
          · rcases h with h | h
            · exact appOwn_sound hT hS hs ht he hu he' hts hal hp hq h
            · exact appVal_sound hT hS hs ht he hu he' hts hal hp hq h
        · exact h.elim
      · exact h.elim
  · rename_i t u a x K'
    match hal : as.toList, has with
    | [p, q], has =>
      simp only [List.map_cons, List.map_nil, List.cons.injEq, and_true] at has
      obtain ⟨rfl, rfl⟩ := has
      have hp := hρ p (by simp [hal])
      have hq := hρ q (by simp [hal])
      split at h
      · rename_i e e' ht hu
        split at h
        · rename_i t' id off n he e1
          obtain ⟨he', hf, h⟩ := h
          exact copy_sound hT hS hs ht he hu he' hf hts hal hp hq e1 h
        · exact h.elim
      · exact h.elim
  · exact h.elim
theorem opT_sound (hT : TabOk P tab) (hS : St m σ) (hs : m.H s = []) {op : Op} (hρ : ∀ q ∈ op.operands, VT m σ (ρ q) (ρv q)) (h : opT tab σ ρ op K) : Snd P m σ s ρv op K := by
  cases op with
  | move x => exact Snd.same hS (by simp only [opE]) (hρ x (by simp [Op.operands])) h
  | assign x => exact Snd.same hS (by simp only [opE]) (hρ x (by simp [Op.operands])) h
  | pick c a b =>
    unfold opT at h
    simp only at h
    split at h
    · rename_i x e1
      have hc := hρ c (by simp [Op.operands])
      rw [e1] at hc
      have hc' := hc.bool_inv
      cases hx : x with
      | true => exact Snd.same hS (by simp only [opE, hc', hx]) (hρ a (by simp [Op.operands])) (h.t hx)
      | false => exact Snd.same hS (by simp only [opE, hc', hx]) (hρ b (by simp [Op.operands])) (h.f hx)
    · exact h.elim
  | alloc t =>
    unfold opT at h
    simp only at h
    split at h
    · rename_i e ht; exact alloc_sound hT hS hs ht h
    · exact h.elim
  | box t x => exact box_sound hS hs (hρ x (by simp [Op.operands])) h.1 h.2
  | build t ps =>
    unfold opT at h
    simp only at h
    split at h
    · rename_i ty fs b ht
      have h1 := tab_d hT ht
      have hmem : ∀ p ∈ ps.toList, VT m σ (ρ p.2) (ρv p.2) := fun p hp => hρ p.2 (parts_mem hp)
      have hv := parts_vtl hmem
      obtain ⟨cs, as, f1, f2, f3⟩ := fillV_sound (m := m) (qs := ps.toList.map fun p => (p.1, ρv p.2)) h (by simp) (by simpa [List.map_map, Function.comp_def] using hv) (zero_vt m σ ty)
      exact Snd.same hS (by simp only [opE, h1, f1, Option.map_some]) (.agg _ _ f2) f3
    · exact h.elim
  | buildSlice t n ps =>
    unfold opT at h
    simp only at h
    split at h
    · rename_i e ht
      split at h
      · rename_i t' he
        obtain ⟨hn, hp, h⟩ := h
        have hn := Nat.le_of_ble_eq_true hn
        have hmem : ∀ p ∈ ps.toList, VT m σ (ρ p.2) (ρv p.2) := fun p hp => hρ p.2 (parts_mem hp)
        have hv := parts_vtl hmem
        unfold buildT at h
        split at h
        · rename_i t2
          rcases h with h | h
          · exact buildOwn_sound hT hS hs ht he hn hp hv h
          · exact buildVal_sound hT hS hs ht he hn hp hv h
        · exact buildFlat_sound hT hS hs ht he h.1 hn hp hv h.2
      · exact h.elim
    · exact h.elim
  | load t a =>
    unfold opT at h
    simp only at h
    split at h
    · rename_i e ht; exact load_sound hT hS hs ht (hρ a (by simp [Op.operands])) h
    · exact h.elim
  | store t a x =>
    unfold opT at h
    simp only at h
    split at h
    · rename_i e ht; exact store_sound hT hS hs ht (hρ a (by simp [Op.operands])) (hρ x (by simp [Op.operands])) h
    · exact h.elim
  | nilCheck x =>
    unfold opT at h
    simp only at h
    split at h
    · rename_i id k e1
      have hx := hρ x (by simp [Op.operands])
      rw [e1] at hx
      obtain ⟨o, o1, o2⟩ := hx.pcell_inv h.1
      exact Snd.same hS (av := ρv x) (by simp only [opE, o2]) hx h.2
    · exact h.elim
  | binOp op t x y u => exact opBin_sound hT hS (hρ x (by simp [Op.operands])) (hρ y (by simp [Op.operands])) h
  | unOp op t x =>
    have hx := hρ x (by simp [Op.operands])
    cases op with
    | neg =>
      unfold opT at h
      simp only at h
      split at h
      · rename_i k a e1
        rw [e1] at hx
        have := intT_spec (r := -(a : Int)) h
        refine Snd.same hS (av := .int k (k.wrap (-(a : Int)))) ?_ (VT.int _) this
        simp only [opE, unA, hx.int_inv, Option.map_some, Int.zero_sub]
      · exact h.elim
    | not =>
      unfold opT at h
      simp only at h
      split at h
      · rename_i a e1
        rw [e1] at hx
        exact Snd.same hS (by simp only [opE, unA, hx.bool_inv, Option.map_some]) (VT.bool _) h
      · exact h.elim
    | _ => exact h.elim
  | convert src dst x =>
    unfold opT at h
    simp only at h
    split at h
    · rename_i e k' k b k2 a h1 h2 e1
      obtain ⟨rfl, h⟩ := h
      have hx := hρ x (by simp [Op.operands])
      rw [e1] at hx
      have d1 := tab_d hT h1
      have d2 := tab_d hT h2
      exact Snd.same hS (by simp only [opE, d1, d2, hx.int_inv]) (VT.int _) h
    · exact h.elim
  | makeFunc fn first caps =>
    cases fn with
    | func f =>
      obtain ⟨h1, h⟩ := h
      have hv : VTL m σ (caps.toList.map ρ) (caps.toList.map ρv) := VTL.map fun q hq => hρ q (by simp [Op.operands]; exact .inr (by simpa using hq))
      exact Snd.same hS (by simp only [opE, h1, if_true]) (.fn f _ _ hv) h
    | _ => exact h.elim
  | makeSlice t l c =>
    unfold opT at h
    simp only at h
    split at h
    · rename_i e n mm ht e1 e2
      split at h
      · rename_i t' he
        obtain ⟨rfl, h0, h1, h⟩ := h
        have hl := hρ l (by simp [Op.operands])
        have hc := hρ c (by simp [Op.operands])
        rw [e1] at hl
        rw [e2] at hc
        exact make_sound hT hS hs ht he hl.int_inv hc.int_inv h0 h1 h
      · exact h.elim
    · exact h.elim
  | slice t x lo hi mx => exact slice_sound hT hS hρ h
  | fieldAddr t x f =>
    unfold opT at h
    simp only at h
    split at h
    · rename_i T fs b id k ht e1
      split at h
      · rename_i o n hf
        obtain ⟨hn, hk, h⟩ := h
        have hx := hρ x (by simp [Op.operands])
        rw [e1] at hx
        have d1 := tab_d hT ht
        obtain ⟨ob, o1, o2⟩ := hx.pcell_inv hk
        exact Snd.same hS (by simp only [opE, d1, o2, hf]; rw [if_neg hn]) (.pcell _ _ _ (kind_lt hk) fun _ => ⟨ob, o1, rfl⟩) h
      · exact h.elim
    · exact h.elim
  | indexAddr t x i => exact indexAddr_sound hT hS (hρ x (by simp [Op.operands])) (hρ i (by simp [Op.operands])) h
  | index t x i => exact index_sound hT hS (hρ x (by simp [Op.operands])) (hρ i (by simp [Op.operands])) h
  | extract x i =>
    unfold opT at h
    simp only at h
    split at h
    · rename_i vs e1
      split at h
      · rename_i v hv
        have hx := hρ x (by simp [Op.operands])
        rw [e1] at hx
        generalize hav : ρv x = av at hx
        cases hx with
        | tup _ as hl =>
          obtain ⟨a, a1, a2⟩ := hl.get hv
          exact Snd.same hS (by simp only [opE, hav, a1, Option.map_some]) a2 h
      · exact h.elim
    · exact h.elim
  | call c =>
    obtain ⟨f, as, ts⟩ := c
    cases f with
    | builtin b => exact builtin_sound hT hS hs (fun q hq => hρ q (by simp [Op.operands, Call.operands]; simpa using hq)) h
    | _ => exact h.elim
  | _ => exact h.elim
end
end Go.Proofs.YtbcdcbamdahnpaaTv
end
section
/- TV, part R: environments, calls, regions, code over typed values. -/
namespace Go.Proofs.YtbcdcbamdahnpaaTv
open Go.Proofs.YtbcdcbamdahnpaaVe
abbrev EnvV := Nat → V
def EnvV.upd (E : EnvV) (t : Nat) (v : V) : EnvV := fun u => if u = t then v else E u
def EnvV.put (E : EnvV) : Option Nat → V → EnvV
  | some t, v => EnvV.upd E t v
  | none, _ => E
mutual
def constV : Value → V
  | .int k n => .val (.int k) n
  | .bool b => .val .bool b
  | .string s => .val .str s
  | .slice none 0 0 => .nil .unit
  | .pointer none => .nilp
  | .agg cs => .agg (constVs cs.toList)
  | _ => .undef
def constVs : List Value → List V
  | [] => []
  | c :: cs => constV c :: constVs cs
end
def EnvV.ev (E : EnvV) : Operand → V
  | .tmp t => E t
  | .const v => constV v
  | .func f => .fn f []
  | .global _ => .undef
mutual
def V.sh (n : Nat) : V → V
  | .own id off k => .own (n + id) off k
  | .pel id i => .pel (n + id) i
  | .pcell id k => .pcell (n + id) k
  | .pv cs => .pv (V.shs n cs)
  | .agg cs => .agg (V.shs n cs)
  | .tup cs => .tup (V.shs n cs)
  | .fn f cs => .fn f (V.shs n cs)
  | .val t x => .val t x
  | .nil t => .nil t
  | .nilp => .nilp
  | .undef => .undef
def V.shs (n : Nat) : List V → List V
  | [] => []
  | v :: vs => V.sh n v :: V.shs n vs
end
def Obj.sh (n : Nat) : Obj → Obj
  | .vars vs => .vars (V.shs n vs)
  | o => o
mutual
/-- No data by value but flat ones. -/
def plainV : V → Bool
  | .val t _ => t.flat
  | .pv _ => false
  | .agg cs => plainVs cs
  | .tup cs => plainVs cs
  | .fn _ cs => plainVs cs
  | _ => true
def plainVs : List V → Bool
  | [] => true
  | v :: vs => plainV v && plainVs vs
end
def Obj.plain : Obj → Bool
  | .arr _ _ u => u
  | .frz _ _ => false
  | .vars vs => plainVs vs
  | .gone => true
/-- What a function makes of typed data: the result, and the objects that come with it. -/
def ConT (P : Program) (f : Nat) (args : List V) (rs : V) (σ1 : List Obj) : Prop :=
  Enters P f ∧ ∀ (m : MS) (s : Nat) (avs : List AV), (∀ t j k, m.F t j ≠ some (k + 1)) → m.H s = [] → St m [] → VTL m [] args avs →
    CallV P f avs m.H s fun av H' => ∃ m', m'.H = H' ∧ St m' σ1 ∧ Kp m [] m' σ1 ∧ Fr m m' s ∧ VT m' σ1 rs av
/-- A function that is handed objects (those of σ0), which it may change: the first of σ1. -/
def ConI (P : Program) (f : Nat) (args : List V) (σ0 : List Obj) (rs : V) (σ1 : List Obj) : Prop :=
  Enters P f ∧ ∀ (m : MS) (s : Nat) (avs : List AV), (∀ t j k, m.F t j = some (k + 1) → k < σ0.length) → m.H s = [] → St m σ0 → VTL m σ0 args avs →
    CallV P f avs m.H s fun av H' => ∃ m', m'.H = H' ∧ St m' σ1 ∧ Kp m σ0 m' σ1 ∧ Fr m m' s ∧ VT m' σ1 rs av
mutual
def encV : V → AV
  | .val t x => (encC t x).headD .undef
  | .nil _ => .nil
  | .agg cs => .agg (encVs cs)
  | .tup cs => .tup (encVs cs)
  | _ => .undef
def encVs : List V → List AV
  | [] => []
  | v :: vs => encV v :: encVs vs
end
mutual
def scalV : V → Bool
  | .val t _ => t.flat && !t.isRec
  | .nil _ => true
  | .agg cs => scalVs cs
  | .tup cs => scalVs cs
  | _ => false
def scalVs : List V → Bool
  | [] => true
  | v :: vs => scalV v && scalVs vs
end
/-- A function whose result holds no objects. -/
def ConS (P : Program) (f : Nat) (args : List V) (rs : V) : Prop :=
  scalV rs = true ∧ Enters P f ∧ ∀ (m : MS) (s : Nat) (avs : List AV), (∀ t j k, m.F t j ≠ some (k + 1)) → m.H s = [] → St m [] → VTL m [] args avs →
    CallV P f avs m.H s fun av H' => av = encV rs ∧ H' = m.H
mutual
def V.ren (r : List Nat) : V → V
  | .own id off k => .own (r.getD id 0) off k
  | .pel id i => .pel (r.getD id 0) i
  | .pcell id k => .pcell (r.getD id 0) k
  | .pv cs => .pv (V.rens r cs)
  | .agg cs => .agg (V.rens r cs)
  | .tup cs => .tup (V.rens r cs)
  | .fn f cs => .fn f (V.rens r cs)
  | .val t x => .val t x
  | .nil t => .nil t
  | .nilp => .nilp
  | .undef => .undef
def V.rens (r : List Nat) : List V → List V
  | [] => []
  | v :: vs => V.ren r v :: V.rens r vs
end
def Obj.ren (r : List Nat) : Obj → Obj
  | .vars vs => .vars (V.rens r vs)
  | o => o
/-- The objects l of a small state lie in σ at r. -/
def fitO (σ : List Obj) (r : List Nat) : List Nat → List Obj → Prop
  | [], [] => True
  | i :: is, o :: os => σ[i]? = some (o.ren r) ∧ fitO σ r is os
  | _, _ => False
def fitE (E : EnvV) (r : List Nat) : List (Nat × V) → Prop
  | [] => True
  | (t, v) :: l => E t = v.ren r ∧ fitE E r l
mutual
def idsIn (n : Nat) : V → Bool
  | .own id _ _ | .pel id _ | .pcell id _ => decide (id < n)
  | .pv cs => idsIns n cs
  | .agg cs => idsIns n cs
  | .tup cs => idsIns n cs
  | .fn _ cs => idsIns n cs
  | _ => true
def idsIns (n : Nat) : List V → Bool
  | [] => true
  | v :: vs => idsIn n v && idsIns n vs
end
def Obj.idsIn (n : Nat) : Obj → Bool
  | .vars vs => idsIns n vs
  | _ => true
/-- The name behind a call: the first k0 are those that were handed over. -/
def backN (r : List Nat) (k0 n i : Nat) : Nat := if i < k0 then r.getD i 0 else n + (i - k0)
def backL (r : List Nat) (k0 n : Nat) (len : Nat) : List Nat := (List.range len).map (backN r k0 n)
def putBack (q : List Nat) : List Nat → List Obj → List Obj → List Obj
  | i :: r, o :: os, σ => putBack q r os (σ.set i (o.ren q))
  | _, _, σ => σ
def notIn (r : List Nat) : V → Bool
  | .own id _ _ => !r.contains id
  | .pel _ _ | .pcell _ _ | .fn _ _ | .pv _ | .tup _ => false
  | _ => true
def argFit1 (σ : List Obj) (v w : V) : Prop := match w with
  | .val (.list t) l => Rd σ t v fun xs => xs = l
  | .val t x => v = .val t x
  | .nil _ => match v with
    | .nil _ => True
    | _ => False
  | .nilp => v = .nilp
  | .fn f [] => v = .fn f []
  | _ => False
def argsFit1 (σ : List Obj) : List V → List V → Prop
  | [], [] => True
  | v :: vs, w :: ws => argFit1 σ v w ∧ argsFit1 σ vs ws
  | _, _ => False
def argFit (σ : List Obj) (v w : V) : Prop := match w with
  | .agg ws => match v with
    | .agg vs => argsFit1 σ vs ws
    | _ => False
  | w => argFit1 σ v w
def argsFit (σ : List Obj) : List V → List V → Prop
  | [], [] => True
  | v :: vs, w :: ws => argFit σ v w ∧ argsFit σ vs ws
  | _, _ => False
def argsFitI (σ : List Obj) (r : List Nat) : List V → List V → Prop
  | [], [] => True
  | v :: vs, w :: ws => ((idsIn r.length w = true ∧ v = w.ren r) ∨ (v.cells.all (notIn r) = true ∧ argFit σ v w)) ∧ argsFitI σ r vs ws
  | _, _ => False
def frzs (σ : List Obj) (vs : List V) : List Obj := vs.foldl (fun σ v => v.cells.foldl frzV σ) σ
section
variable (P : Program) (tab : List (Nat × TE))
def callT (σ : List Obj) (f : Nat) (vs : List V) (K : V → List Obj → Prop) : Prop :=
  ∃ cargs rs σ1, ConT P f cargs rs σ1 ∧ argsFit σ vs cargs ∧ if (plainV rs && σ1.all Obj.plain) = true then K (rs.sh σ.length) (σ ++ σ1.map (Obj.sh σ.length)) else K (rs.sh σ.length) (frzs σ vs ++ σ1.map (Obj.sh σ.length))
def callI (σ : List Obj) (f : Nat) (vs : List V) (K : V → List Obj → Prop) : Prop :=
  ∃ r cargs σ0 rs σ1, ConI P f cargs σ0 rs σ1 ∧ r.Nodup ∧ fitO σ r r σ0 ∧ argsFitI σ r vs cargs ∧ (σ0.all (Obj.idsIn σ0.length)) = true ∧ (plainV rs && σ1.all Obj.plain) = true ∧
    K (rs.ren (backL r σ0.length σ.length σ1.length)) (putBack (backL r σ0.length σ.length σ1.length) r σ1 σ ++ (σ1.drop σ0.length).map (Obj.ren (backL r σ0.length σ.length σ1.length)))
def callS (σ : List Obj) (f : Nat) (vs : List V) (K : V → List Obj → Prop) : Prop := ∃ cargs rs, ConS P f cargs rs ∧ argsFit σ vs cargs ∧ K rs σ
def stepT (σ : List Obj) (E : EnvV) (o : Oper) (K : V → List Obj → Prop) : Prop := match o.op with
  | .call ⟨.value f, as, _⟩ => match E.ev f with
    | .fn n caps => callT P σ n (as.toList.map E.ev ++ caps) K ∨ callI P σ n (as.toList.map E.ev ++ caps) K
    | _ => False
  | op => opT tab σ E.ev op K
/-- A value, looked at. -/
def forceN (n : Nat) (K : Nat → Prop) : Prop := match n with
  | 0 => K 0 | 1 => K 1 | 2 => K 2 | 3 => K 3 | 4 => K 4 | 5 => K 5 | 6 => K 6 | 7 => K 7 | 8 => K 8 | 9 => K 9 | 10 => K 10 | 11 => K 11 | 12 => K 12 | 13 => K 13 | 14 => K 14 | 15 => K 15
  | n => K n
def force (v : V) (K : V → Prop) : Prop := match v with
  | .undef => K .undef
  | .val t x => K (.val t x)
  | .nil t => K (.nil t)
  | .own a b c => forceN a fun a => K (.own a b c)
  | .pel a b => forceN a fun a => K (.pel a b)
  | .pcell a b => forceN a fun a => K (.pcell a b)
  | .pv cs => K (.pv cs)
  | .agg cs => K (.agg cs)
  | .tup cs => K (.tup cs)
  | .fn f cs => K (.fn f cs)
  | .nilp => K .nilp
def forceL (σ : List Obj) (K : List Obj → Prop) : Prop := match σ with
  | [] => K []
  | o :: l => forceL l fun l => K (o :: l)
theorem forceN_eq {n : Nat} {K : Nat → Prop} (h : forceN n K) : K n := by
  unfold forceN at h
  split at h <;> exact h
theorem force_eq {v : V} {K : V → Prop} (h : force v K) : K v := by
  cases v with
  | own a b c => exact forceN_eq (K := fun a => K (.own a b c)) h
  | pel a b => exact forceN_eq (K := fun a => K (.pel a b)) h
  | pcell a b => exact forceN_eq (K := fun a => K (.pcell a b)) h
  | _ => exact h
theorem forceL_eq : ∀ {σ : List Obj} {K : List Obj → Prop}, forceL σ K → K σ
  | [], _, h => h
  | o :: l, K, h => forceL_eq (σ := l) (K := fun l => K (o :: l)) h
/-- An operation behind a condition. -/
def guardT (ops : Array Oper) (E : EnvV) (o : Oper) (run : EnvV → Prop) (skip : EnvV → Prop) : Prop := match o.guard with
  | none => run E
  | some (j, want) => match (ops[j]?).bind (·.dst) with
    | none => skip E
    | some d => match E d with
      | .val .bool b => match want with
        | true => Br b (run (EnvV.upd E d (.val .bool true))) (skip (EnvV.upd E d (.val .bool false)))
        | false => Br b (skip (EnvV.upd E d (.val .bool true))) (run (EnvV.upd E d (.val .bool false)))
      | .tup [] => skip E
      | _ => False
def seqT (ops : Array Oper) : List Oper → EnvV → List Obj → (EnvV → List Obj → Prop) → Prop
  | [], E, σ, K => K E σ
  | o :: rest, E, σ, K => guardT ops E o (fun E => stepT P tab σ E o fun v σ' => force v fun v => forceL σ' fun σ' => match o.dst with
    | some t => seqT ops rest (EnvV.upd E t v) σ' K
    | none => seqT ops rest E σ' K) fun E => match o.dst with
    | some t => seqT ops rest (EnvV.upd E t (.tup [])) σ K
    | none => seqT ops rest E σ K
/-- Operations that do not look at the heap. -/
def pureOp : Op → Bool
  | .move _ | .assign _ | .pick .. | .build .. | .nilCheck _ | .binOp .. | .unOp .. | .convert .. | .makeFunc .. | .fieldAddr .. | .indexAddr .. | .index .. | .extract .. => true
  | .call ⟨.builtin .len, _, _⟩ | .call ⟨.builtin .max, _, _⟩ | .call ⟨.builtin .min, _, _⟩ => true
  | _ => false
/-- Operations that make something out of their operands alone. -/
def makes : Op → Bool
  | .alloc _ | .box .. | .buildSlice .. | .makeSlice .. => true
  | _ => false
/-- Operations that leave the heap as it is. -/
def leaves : Op → Bool
  | .load .. => true
  | op => pureOp op
def seen (A : Nat → Nat) (al : List Nat) (i : Nat) : Bool := al.all fun k => (A i).testBit k
def stepDT (A : Nat → Nat) (i : Nat) (al : List Nat) (σ : List Obj) (E : EnvV) (o : Oper) (K : V → List Obj → List Nat → Prop) : Prop := match o.op with
  | .call ⟨.value f, as, _⟩ => match E.ev f with
    | .fn n caps => seen A al i = true ∧ callS P σ n (as.toList.map E.ev ++ caps) fun v σ' => K v σ' al
    | _ => False
  | op => (!quiet op || pureOp op || makes op || seen A al i) = true ∧ opT tab σ E.ev op fun v σ' => K v σ' (if leaves op = true then al else i :: al)
def drawT (ops : Array Oper) (A : Nat → Nat) : Nat → List Nat → List Oper → EnvV → List Obj → (EnvV → List Obj → Prop) → Prop
  | _, _, [], E, σ, K => K E σ
  | i, al, o :: rest, E, σ, K => guardT ops E o (fun E => stepDT P tab A i al σ E o fun v σ' al' => force v fun v => forceL σ' fun σ' => match o.dst with
    | some t => drawT ops A (i + 1) al' rest (EnvV.upd E t v) σ' K
    | none => drawT ops A (i + 1) al' rest E σ' K) fun E => match o.dst with
    | some t => drawT ops A (i + 1) al rest (EnvV.upd E t (.tup [])) σ K
    | none => drawT ops A (i + 1) al rest E σ K
abbrev PostT := Exit → EnvV → List Obj → Prop
def PostT.seq (Q : PostT) (K : EnvV → List Obj → Prop) : PostT
  | .normal, E, σ => K E σ
  | e, E, σ => Q e E σ
def PostT.blk (Q : PostT) (id : Nat) : PostT
  | .exit i, E, σ => if i = id then Q .normal E σ else Q (.exit i) E σ
  | e, E, σ => Q e E σ
def mkE : List (Nat × V) → EnvV
  | [] => fun _ => .undef
  | (t, v) :: l => EnvV.upd (mkE l) t v
/-- A state shows a small one. -/
def frzI (fr : List Nat) (σ : List Obj) : List Obj := (fr.map fun id => V.own id 0 0).foldl frzV σ
def Fits (k0 : Nat) (E : EnvV) (σ : List Obj) (env : List (Nat × V)) (ob : List Obj) : Prop := ∃ fr r : List Nat, fitE E r env ∧ fitO (frzI fr σ) r r ob ∧ r.Nodup ∧ (env.all fun p => idsIn ob.length p.2) = true ∧ (ob.all (Obj.idsIn ob.length)) = true ∧ r.take k0 = List.range k0
def wpT (k0 : Nat) : Code → EnvV → List Obj → PostT → Prop
  | .skip, E, σ, Q => Q .normal E σ
  | .label _, E, σ, Q => Q .normal E σ
  | .region _ ops draw, E, σ, Q => match draw with
    | true => okAll ops (anc ops) = true ∧ drawT P tab ops (anc ops) 0 [] ops.toList E σ fun E σ => Q .normal E σ
    | false => seqT P tab ops ops.toList E σ fun E σ => Q .normal E σ
  | .seq a b, E, σ, Q => wpT k0 a E σ (PostT.seq Q fun E σ => wpT k0 b E σ Q)
  | .cond c t f, E, σ, Q => match E.ev c with
    | .val .bool b => Br b (wpT k0 t E σ Q) (wpT k0 f E σ Q)
    | _ => False
  | .block id c, E, σ, Q => wpT k0 c E σ (PostT.blk Q id)
  | .loop c, E, σ, Q => ∃ (α : Type) (inv : α → Prop) (n : α → Nat) (env : α → List (Nat × V)) (ob : α → List Obj), (∃ a, Fits k0 E σ (env a) (ob a) ∧ inv a) ∧
      ∀ a, inv a → wpT k0 c (mkE (env a)) (ob a) (PostT.seq Q fun E' σ' => ∃ a', Fits k0 E' σ' (env a') (ob a') ∧ inv a' ∧ n a' < n a)
  | .exit id, E, σ, Q => Q (.exit id) E σ
  | .ret, E, σ, Q => Q .ret E σ
  | _, _, _, _ => False
end
end Go.Proofs.YtbcdcbamdahnpaaTv
end
section
/- TV, part S: calls of functions are sound. -/
namespace Go.Proofs.YtbcdcbamdahnpaaTv
open Go.Proofs.YtbcdcbamdahnpaaVe
theorem shs_map (n : Nat) : ∀ l, V.shs n l = l.map (V.sh n)
  | [] => by simp [V.shs]
  | v :: l => by simp [V.shs, shs_map n l]
theorem kind_sh {σ σ1 : List Obj} {i : Nat} : kind (σ ++ σ1.map (Obj.sh σ.length)) (σ.length + i) = kind σ1 i := by
  unfold kind
  rw [List.getElem?_append_right (by omega), Nat.add_sub_cancel_left, List.getElem?_map]
  cases σ1[i]? with
  | none => rfl
  | some o => cases o <;> rfl
theorem kind_old {σ σ1 : List Obj} {i : Nat} (h : i < σ.length) : kind (σ ++ σ1) i = kind σ i := by
  unfold kind
  rw [List.getElem?_append_left h]
def joinM (m m' : MS) (s n : Nat) : MS := ⟨fun t j => if t = s then (m'.F t j).map (fun k => if k = 0 then 0 else k + n) else m.F t j, m'.H, fun i => if i < n then m.ι i else m'.ι (i - n)⟩
section
variable {m m' : MS} {σ σ1 : List Obj} {s : Nat}
theorem join_fz (hF0 : ∀ t j, t ≠ s → m'.F t j = some 0 → m.F t j = some 0) : ∀ t j, m'.F t j = some 0 → (joinM m m' s σ.length).F t j = some 0 := fun t j h => by
  simp only [joinM]
  split
  · simp [h]
  · rename_i ht; exact hF0 t j ht h
theorem join_keep (hF0 : ∀ t j, t ≠ s → m'.F t j = some 0 → m.F t j = some 0) : Keep m'.fz m'.H (joinM m m' s σ.length).fz (joinM m m' s σ.length).H := fun t j h => ⟨join_fz hF0 t j h, rfl⟩
theorem join_at (i : Nat) : (joinM m m' s σ.length).at (σ.length + i) = m'.at i := by
  have : ¬ (σ.length + i < σ.length) := by omega
  simp [joinM, MS.at, this]
theorem join_ι (i : Nat) : (joinM m m' s σ.length).ι (σ.length + i) = m'.ι i := by
  have : ¬ (σ.length + i < σ.length) := by omega
  simp [joinM, this]
mutual
theorem VT.shift (hF0 : ∀ t j, t ≠ s → m'.F t j = some 0 → m.F t j = some 0) : ∀ {v : V} {a : AV}, VT m' σ1 v a → VT (joinM m m' s σ.length) (σ ++ σ1.map (Obj.sh σ.length)) (v.sh σ.length) a
  | _, _, .undef a => by simp only [V.sh]; exact .undef a
  | _, _, .val t x a h => by simp only [V.sh]; exact .val t x a (h.keep (join_keep hF0))
  | _, _, .nil t => by simp only [V.sh]; exact .nil t
  | _, _, .own id off n a h1 h2 => by
    simp only [V.sh]
    exact .own _ _ _ _ (by simp; omega) fun t ht => by
      rw [kind_sh] at ht
      obtain ⟨o, k1, k2⟩ := h2 t ht
      exact ⟨o, by rw [join_at]; exact k1, by rw [join_ι]; exact k2⟩
  | _, _, .pel id i a h1 h2 => by
    simp only [V.sh]
    exact .pel _ _ _ (by simp; omega) fun t ht => by
      rw [kind_sh] at ht
      obtain ⟨o, k1, k2⟩ := h2 t ht
      exact ⟨o, by rw [join_at]; exact k1, by rw [join_ι]; exact k2⟩
  | _, _, .pcell id k a h1 h2 => by
    simp only [V.sh]
    exact .pcell _ _ _ (by simp; omega) fun ht => by
      rw [kind_sh] at ht
      obtain ⟨o, k1, k2⟩ := h2 ht
      exact ⟨o, by rw [join_at]; exact k1, by rw [join_ι]; exact k2⟩
  | _, _, .pv cs a as h1 h2 h3 => by
    simp only [V.sh]
    exact .pv _ _ as (by rw [shs_map, List.length_map]; exact h1) (fun t j g off e => join_fz hF0 t j (h2 t j g off e)) (VTL.shift hF0 h3)
  | _, _, .agg cs as h => by simp only [V.sh]; exact .agg _ _ (VTL.shift hF0 h)
  | _, _, .tup cs as h => by simp only [V.sh]; exact .tup _ _ (VTL.shift hF0 h)
  | _, _, .fn f cs as h => by simp only [V.sh]; exact .fn f _ _ (VTL.shift hF0 h)
  | _, _, .nilp => by simp only [V.sh]; exact .nilp
theorem VTL.shift (hF0 : ∀ t j, t ≠ s → m'.F t j = some 0 → m.F t j = some 0) : ∀ {v : List V} {a : List AV}, VTL m' σ1 v a → VTL (joinM m m' s σ.length) (σ ++ σ1.map (Obj.sh σ.length)) (V.shs σ.length v) a
  | _, _, .nil => by simp only [V.shs]; exact .nil
  | _, _, .cons v a vs as h1 h2 => by simp only [V.shs]; exact .cons _ _ _ _ (VT.shift hF0 h1) (VTL.shift hF0 h2)
end
theorem join_step (hS : St m σ) (hs : m.H s = []) (hS1 : St m' σ1) (hH : ∀ t j, t ≠ s → m'.H.ob t j = m.H.ob t j) (hF0 : ∀ t j, t ≠ s → m'.F t j = some 0 → m.F t j = some 0) (hFo : ∀ t j k, t ≠ s → m'.F t j ≠ some (k + 1)) :
    St (joinM m m' s σ.length) (σ ++ σ1.map (Obj.sh σ.length)) ∧ Kp m σ (joinM m m' s σ.length) (σ ++ σ1.map (Obj.sh σ.length)) ∧ Fr m (joinM m m' s σ.length) s := by
  have hns : ∀ t j k, m.F t j = some k → t ≠ s := fun t j k h e => by
    obtain ⟨o, ho⟩ := hS.dom t j k h
    rw [e] at ho; simp [Heap.ob, hs] at ho
  have hFe : ∀ t j, t ≠ s → (joinM m m' s σ.length).F t j = m.F t j := fun t j ht => by simp [joinM, ht]
  have hat : ∀ id κ, kind σ id = some κ → (joinM m m' s σ.length).ι id = m.ι id ∧ (joinM m m' s σ.length).at id = m.at id := fun id κ hk => by
    have hid := kind_lt hk
    obtain ⟨hF, _⟩ := OT.owner hS hk
    have hne : (m.ι id).1 ≠ s := by rcases hF with h | h <;> exact hns _ _ _ h
    refine ⟨by simp [joinM, hid], ?_⟩
    simp only [MS.at, joinM, hid, if_true]
    exact hH _ _ hne
  have kp : Kp m σ (joinM m m' s σ.length) (σ ++ σ1.map (Obj.sh σ.length)) := by
    refine ⟨fun t j h => ?_, by simp, fun id κ hid hk => ?_⟩
    · have ht := hns _ _ _ h
      exact ⟨(hFe t j ht).trans h, hH t j ht⟩
    · rw [kind_old hid] at hk
      obtain ⟨h1, h2⟩ := hat id κ hk
      exact ⟨hk, h1, fun o ho => ⟨o, by rw [h2]; exact ho, rfl⟩⟩
  refine ⟨⟨fun id o ho => ?_, fun t j k hk => ?_⟩, kp, fun t j ht _ => ⟨hH t j ht, hFe t j ht⟩⟩
  · by_cases hid : id < σ.length
    · rw [List.getElem?_append_left hid] at ho
      refine OT.keep kp (by simp [joinM, hid]) (fun t j h => ?_) (hS.obj id o ho)
      have ht := hns _ _ _ h
      exact ⟨(hFe t j ht).trans h, hH t j ht⟩
    · have e : id = σ.length + (id - σ.length) := by omega
      generalize id - σ.length = i at e
      subst e
      rw [List.getElem?_append_right (by omega), Nat.add_sub_cancel_left, List.getElem?_map] at ho
      cases h1 : σ1[i]? with
      | none => rw [h1] at ho; cases ho
      | some o1 =>
        rw [h1] at ho
        simp only [Option.map_some, Option.some.injEq] at ho
        have h2 := hS1.obj i o1 h1
        have hown : ∀ t j, m'.F t j = some (i + 1) → t = s ∧ (joinM m m' s σ.length).F t j = some (σ.length + i + 1) := fun t j h => by
          have ht : t = s := Classical.byContradiction fun c => hFo t j i c h
          refine ⟨ht, ?_⟩
          simp only [joinM, ht, if_true]
          rw [← ht, h]
          simp; omega
        subst ho
        cases o1 with
        | gone => trivial
        | vars vs =>
          obtain ⟨g, z, as, k1, k2, k3⟩ := h2
          exact ⟨g, z, as, by rw [join_at]; exact k1, by rw [join_ι]; exact (hown _ _ k2).2, VTL.shift hF0 k3⟩
        | frz t l =>
          obtain ⟨g, ch, k1, k2, k3, k4⟩ := h2
          exact ⟨g, ch, by rw [join_at]; exact k1, by rw [join_ι]; exact join_fz hF0 _ _ k2, k3, k4.mono fun x c _ _ k => k.keep (join_keep hF0)⟩
        | arr t l u =>
          cases u with
          | false =>
            obtain ⟨g, ch, k1, k2, k3, k4⟩ := h2
            exact ⟨g, ch, by rw [join_at]; exact k1, by rw [join_ι]; exact (hown _ _ k2).2, k3, k4.mono fun x c _ _ k => k.keep (join_keep hF0)⟩
          | true =>
            obtain ⟨o, O, k1, k2, k3, k4⟩ := h2
            exact ⟨o, O, by rw [join_at]; exact k1, by rw [join_ι]; exact k2, k3, fun p hp => (hown _ _ (k4 p hp)).2⟩
  · simp only [joinM] at hk ⊢
    split at hk
    · rename_i ht
      cases h1 : m'.F t j with
      | none => rw [h1] at hk; cases hk
      | some k' => exact hS1.dom t j k' h1
    · rename_i ht
      obtain ⟨o, ho⟩ := hS.dom t j k hk
      exact ⟨o, by rw [hH t j ht]; exact ho⟩
/-- What is not by value does not look at what is frozen. -/
theorem Sh.free {G G' : Nat → Nat → Prop} {H H' : Heap} {t : Ty} {x : t.den} {cs : List AV} (hf : t.flat = true) (h : Sh G H t x cs) : Sh G' H' t x cs := by
  rw [h.enc hf]; exact enc_sh _ _ x hf
mutual
theorem VT.plain {m2 : MS} (hH : m2.H = m.H) (hι : m2.ι = m.ι) : ∀ {v : V} {a : AV}, VT m σ v a → plainV v = true → VT m2 σ v a
  | _, _, .undef a, _ => .undef a
  | _, _, .val t x a h, hp => .val t x a (h.free (by simpa [plainV] using hp))
  | _, _, .nil t, _ => .nil t
  | _, _, .own id off n a h1 h2, _ => .own id off n a h1 fun t ht => by
    obtain ⟨o, k1, k2⟩ := h2 t ht
    exact ⟨o, by unfold MS.at; rw [hH, hι]; exact k1, by rw [hι]; exact k2⟩
  | _, _, .pel id i a h1 h2, _ => .pel id i a h1 fun t ht => by
    obtain ⟨o, k1, k2⟩ := h2 t ht
    exact ⟨o, by unfold MS.at; rw [hH, hι]; exact k1, by rw [hι]; exact k2⟩
  | _, _, .pcell id k a h1 h2, _ => .pcell id k a h1 fun ht => by
    obtain ⟨o, k1, k2⟩ := h2 ht
    exact ⟨o, by unfold MS.at; rw [hH, hι]; exact k1, by rw [hι]; exact k2⟩
  | _, _, .pv cs a as _ _ _, hp => by simp [plainV] at hp
  | _, _, .agg cs as h, hp => .agg cs as (VTL.plain hH hι h (by simpa [plainV] using hp))
  | _, _, .tup cs as h, hp => .tup cs as (VTL.plain hH hι h (by simpa [plainV] using hp))
  | _, _, .fn f cs as h, hp => .fn f cs as (VTL.plain hH hι h (by simpa [plainV] using hp))
  | _, _, .nilp, _ => .nilp
theorem VTL.plain {m2 : MS} (hH : m2.H = m.H) (hι : m2.ι = m.ι) : ∀ {v : List V} {a : List AV}, VTL m σ v a → plainVs v = true → VTL m2 σ v a
  | _, _, .nil, _ => .nil
  | _, _, .cons v a vs as h1 h2, hp => by
    simp only [plainVs, Bool.and_eq_true] at hp
    exact .cons v a vs as (VT.plain hH hι h1 hp.1) (VTL.plain hH hι h2 hp.2)
end
theorem OT.plain {m2 : MS} (hH : m2.H = m.H) (hι : m2.ι = m.ι) (hF : ∀ t j k, m.F t j = some (k + 1) → m2.F t j = some (k + 1)) {id : Nat} {o : Obj} (hp : o.plain = true) (h : OT m σ id o) : OT m2 σ id o := by
  have hat : m2.at id = m.at id := by unfold MS.at; rw [hH, hι]
  cases o with
  | gone => trivial
  | frz t l => simp [Obj.plain] at hp
  | vars vs =>
    obtain ⟨g, z, as, k1, k2, k3⟩ := h
    exact ⟨g, z, as, by rw [hat]; exact k1, by rw [hι]; exact hF _ _ _ k2, VTL.plain hH hι k3 (by simpa [Obj.plain] using hp)⟩
  | arr t l u =>
    have hu : u = true := by simpa [Obj.plain] using hp
    subst hu
    obtain ⟨o, O, k1, k2, k3, k4⟩ := h
    exact ⟨o, O, by rw [hat]; exact k1, by rw [hι, hH]; exact k2, k3, fun p hp => hF _ _ _ (k4 p hp)⟩
/-- Arguments that are shown, by value, for the function that is called. -/
theorem argFit1_sound (hS : St m σ) {m2 : MS} (hH : m2.H = m.H) (hF : ∀ t j k, m.F t j = some k → m2.F t j = some 0) {v w : V} {a : AV} (h : argFit1 σ v w) (hv : VT m σ v a) : VT m2 [] w a := by
  cases w with
  | val t x =>
    have key : ∀ {t : Ty} {x : t.den}, VT m σ (.val t x) a → VT m2 [] (.val t x) a := fun hv => by
      cases hv with
      | val _ _ _ hs => exact .val _ _ _ (hs.keep fun t j g => ⟨hF t j 0 g, by rw [hH]⟩)
    cases t with
    | list t =>
      obtain ⟨xs, rfl, hs⟩ := Rd_sound hS h hv
      exact .val (.list t) xs a (hs.keep fun t j g => ⟨by obtain ⟨k, g⟩ := g; exact hF t j k g, by rw [hH]⟩)
    | _ => simp only [argFit1] at h; subst h; exact key hv
  | nil t =>
    cases v <;> simp only [argFit1] at h
    cases hv
    exact .nil t
  | nilp => simp only [argFit1] at h; subst h; cases hv; exact .nilp
  | fn f cs =>
    cases cs with
    | nil =>
      simp only [argFit1] at h
      subst h
      cases hv with
      | fn _ _ as hl => cases hl; exact .fn f [] [] .nil
    | cons c cs => simp only [argFit1] at h
  | _ => simp only [argFit1] at h
theorem argsFit1_sound (hS : St m σ) {m2 : MS} (hH : m2.H = m.H) (hF : ∀ t j k, m.F t j = some k → m2.F t j = some 0) : ∀ {vs ws : List V} {as : List AV}, argsFit1 σ vs ws → VTL m σ vs as → VTL m2 [] ws as
  | [], [], _, _, .nil => .nil
  | v :: vs, w :: ws, _, h, .cons _ a _ as h1 h2 => .cons _ _ _ _ (argFit1_sound hS hH hF h.1 h1) (argsFit1_sound hS hH hF h.2 h2)
  | [], _ :: _, _, h, _ => h.elim
  | _ :: _, [], _, h, _ => h.elim
theorem argFit_sound (hS : St m σ) {m2 : MS} (hH : m2.H = m.H) (hF : ∀ t j k, m.F t j = some k → m2.F t j = some 0) {v w : V} {a : AV} (h : argFit σ v w) (hv : VT m σ v a) : VT m2 [] w a := by
  cases w with
  | agg ws =>
    cases v <;> simp only [argFit] at h
    cases hv with
    | agg _ as hl => exact .agg _ _ (argsFit1_sound hS hH hF h hl)
  | _ => exact argFit1_sound hS hH hF h hv
theorem argsFit_sound (hS : St m σ) {m2 : MS} (hH : m2.H = m.H) (hF : ∀ t j k, m.F t j = some k → m2.F t j = some 0) : ∀ {vs ws : List V} {as : List AV}, argsFit σ vs ws → VTL m σ vs as → VTL m2 [] ws as
  | [], [], _, _, .nil => .nil
  | v :: vs, w :: ws, _, h, .cons _ a _ as h1 h2 => .cons _ _ _ _ (argFit_sound hS hH hF h.1 h1) (argsFit_sound hS hH hF h.2 h2)
  | [], _ :: _, _, h, _ => h.elim
  | _ :: _, [], _, h, _ => h.elim
end
end Go.Proofs.YtbcdcbamdahnpaaTv
end
section
/- TV, part T: calls are sound. -/
namespace Go.Proofs.YtbcdcbamdahnpaaTv
open Go.Proofs.YtbcdcbamdahnpaaVe
/-- σ' is σ with some slices frozen. -/
def Frz (σ σ' : List Obj) : Prop := σ'.length = σ.length ∧ ∀ id : Nat, σ'[id]? = σ[id]? ∨ ∃ t l u, σ[id]? = some (Obj.arr t l u) ∧ σ'[id]? = some (Obj.frz t l)
theorem Frz.refl (σ : List Obj) : Frz σ σ := ⟨rfl, fun _ => .inl rfl⟩
theorem Frz.trans {a b c : List Obj} (h : Frz a b) (k : Frz b c) : Frz a c := ⟨k.1.trans h.1, fun id => by
  rcases k.2 id with e | ⟨t, l, u, e1, e2⟩
  · rw [e]; exact h.2 id
  · rcases h.2 id with e | ⟨t', l', u', f1, f2⟩
    · exact .inr ⟨t, l, u, by rw [← e]; exact e1, e2⟩
    · rw [f2] at e1; cases e1⟩
theorem frzV_frz (σ : List Obj) (v : V) : Frz σ (frzV σ v) := by
  refine ⟨frzV_length σ v, fun id => ?_⟩
  cases v <;> simp only [frzV, true_or]
  rename_i i off n
  split
  · rename_i t l u e
    by_cases hi : id = i
    · subst hi
      right
      have : id < σ.length := (List.getElem?_eq_some_iff.1 e).1
      exact ⟨t, l, u, e, by simp [this]⟩
    · left; rw [List.getElem?_set_ne (fun c => hi c.symm)]
  · exact .inl rfl
def notArr (σ : List Obj) : V → Prop
  | .own id _ _ => ∀ t l u, σ[id]? ≠ some (.arr t l u)
  | _ => True
theorem frzV_not (σ : List Obj) (v : V) : notArr (frzV σ v) v := by
  cases v <;> simp only [notArr]
  rename_i id off n
  intro t l u h
  simp only [frzV] at h
  split at h
  · rename_i t' l' u' e
    have : id < σ.length := (List.getElem?_eq_some_iff.1 e).1
    simp [this] at h
  · rename_i hn; exact hn t l u h
theorem Frz.not {σ σ' : List Obj} (h : Frz σ σ') {v : V} (hn : notArr σ v) : notArr σ' v := by
  cases v <;> simp only [notArr] at hn ⊢
  rename_i id off n
  intro t l u e
  rcases h.2 id with e2 | ⟨t', l', u', e1, e2⟩
  · rw [e2] at e; exact hn t l u e
  · rw [e2] at e; cases e
theorem Frz.rd {σ σ' : List Obj} (h : Frz σ σ') {t : Ty} {v : V} {k : List t.den → Prop} (hr : Rd σ t v k) : Rd σ' t v k := by
  cases v <;> simp only [Rd] at hr ⊢ <;> try exact hr
  rename_i id off n
  rcases h.2 id with e | ⟨t', l', u', e1, e2⟩
  · rw [e]; exact hr
  · rw [e1] at hr
    simp only at hr
    obtain ⟨xs, u, e3, h1, h2⟩ := hr
    rw [e2]
    simp only
    injection e3 with e3
    injection e3 with e4 e5 e6
    subst e4
    have := eq_of_heq e5
    subst this
    exact ⟨_, rfl, h1, h2⟩
section
variable {P : Program} {m : MS} {σ : List Obj} {s : Nat}
theorem Rd_fz (hS : St m σ) {t : Ty} {v : V} {a : AV} {k : List t.den → Prop} (h : Rd σ t v k) (hn : notArr σ v) (hv : VT m σ v a) : ∃ xs, k xs ∧ Sh m.fz m.H (.list t) xs [a] := by
  unfold Rd at h
  split at h
  · obtain ⟨xs, e, hk⟩ := h
    rw [e] at hv
    cases hv with
    | val _ _ _ hs => exact ⟨xs, hk, hs⟩
  · cases hv
    exact ⟨[], h, .nil, [], rfl, rfl, rfl, rfl, trivial, by simp [most], trivial⟩
  · rename_i id off n
    split at h
    · obtain ⟨xs, u, e, _⟩ := h
      exact (hn _ _ _ e).elim
    · obtain ⟨xs, e, hn, hk⟩ := h
      obtain ⟨g, ch, h1, h2, h3, h4⟩ := (hS.obj id _ e).frz
      obtain ⟨o, k1, rfl⟩ := hv.own_inv (kind_frz e)
      rw [h1] at k1
      injection k1 with k1
      subst k1
      exact ⟨_, hk, sub_sh h1 h2 hn h3 h4⟩
    · exact h.elim
  · exact h.elim
theorem frzV_step (hS : St m σ) (hs : m.H s = []) (v : V) : ∃ m', m'.H = m.H ∧ St m' (frzV σ v) ∧ Kp m σ m' (frzV σ v) ∧ Fr m m' s := by
  have same : frzV σ v = σ → ∃ m', m'.H = m.H ∧ St m' (frzV σ v) ∧ Kp m σ m' (frzV σ v) ∧ Fr m m' s := fun e => ⟨m, rfl, by rw [e]; exact hS, by rw [e]; exact Kp.refl m σ, Fr.refl m s⟩
  cases v with
  | own id off n =>
    cases e : σ[id]? with
    | none => exact same (by simp only [frzV, e])
    | some o =>
      cases o with
      | arr t l u =>
        have : frzV σ (.own id off n) = σ.set id (.frz t l) := by simp only [frzV, e]
        rw [this]
        exact freeze_step hS hs e
      | _ => exact same (by simp only [frzV, e])
  | _ => exact same rfl
theorem frzL_step : ∀ (l : List V) {m : MS} {σ : List Obj}, St m σ → m.H s = [] → ∃ m', m'.H = m.H ∧ St m' (l.foldl frzV σ) ∧ Kp m σ m' (l.foldl frzV σ) ∧ Fr m m' s
  | [], m, σ, hS, _ => ⟨m, rfl, hS, Kp.refl m σ, Fr.refl m s⟩
  | v :: l, m, σ, hS, hs => by
    obtain ⟨m1, e1, h1, k1, f1⟩ := frzV_step (s := s) hS hs v
    obtain ⟨m2, e2, h2, k2, f2⟩ := frzL_step l h1 (by rw [e1]; exact hs)
    exact ⟨m2, e2.trans e1, h2, k1.trans k2, f1.trans f2⟩
theorem frzL_frz : ∀ (l : List V) (σ : List Obj), Frz σ (l.foldl frzV σ)
  | [], σ => Frz.refl σ
  | v :: l, σ => (frzV_frz σ v).trans (frzL_frz l _)
theorem frzL_not : ∀ (l : List V) (σ : List Obj), ∀ v ∈ l, notArr (l.foldl frzV σ) v
  | v :: l, σ, w, h => by
    rcases List.mem_cons.1 h with rfl | h
    · exact (frzL_frz l _).not (frzV_not σ w)
    · exact frzL_not l _ w h
theorem frzs_step : ∀ (vs : List V) {m : MS} {σ : List Obj}, St m σ → m.H s = [] → ∃ m', m'.H = m.H ∧ St m' (frzs σ vs) ∧ Kp m σ m' (frzs σ vs) ∧ Fr m m' s
  | [], m, σ, hS, _ => ⟨m, rfl, hS, Kp.refl m σ, Fr.refl m s⟩
  | v :: l, m, σ, hS, hs => by
    obtain ⟨m1, e1, h1, k1, f1⟩ := frzL_step (s := s) v.cells hS hs
    obtain ⟨m2, e2, h2, k2, f2⟩ := frzs_step l h1 (by rw [e1]; exact hs)
    exact ⟨m2, e2.trans e1, h2, k1.trans k2, f1.trans f2⟩
theorem frzs_frz : ∀ (l : List V) (σ : List Obj), Frz σ (frzs σ l)
  | [], σ => Frz.refl σ
  | v :: l, σ => (frzL_frz v.cells σ).trans (frzs_frz l _)
theorem frzs_not : ∀ (l : List V) (σ : List Obj), ∀ v ∈ l, ∀ c ∈ v.cells, notArr (frzs σ l) c
  | v :: l, σ, w, h, c, hc => by
    rcases List.mem_cons.1 h with rfl | h
    · exact (frzs_frz l _).not (frzL_not w.cells σ c hc)
    · exact frzs_not l _ w h c hc
theorem argFit1_frz {σ' : List Obj} (hf : Frz σ σ') {v w : V} (h : argFit1 σ v w) : argFit1 σ' v w := by
  cases w with
  | val t x =>
    cases t with
    | list t => exact hf.rd h
    | _ => exact h
  | fn f cs => cases cs <;> exact h
  | _ => exact h
theorem argFit1_fz (hS : St m σ) {m2 : MS} (hH : m2.H = m.H) (hF : ∀ t j, m.F t j = some 0 → m2.F t j = some 0) {v w : V} {a : AV} (h : argFit1 σ v w) (hn : notArr σ v) (hv : VT m σ v a) : VT m2 [] w a := by
  cases w with
  | val t x =>
    have key : ∀ {t : Ty} {x : t.den}, VT m σ (.val t x) a → VT m2 [] (.val t x) a := fun hv => by
      cases hv with
      | val _ _ _ hs => exact .val _ _ _ (hs.keep fun t j g => ⟨hF t j g, by rw [hH]⟩)
    cases t with
    | list t =>
      obtain ⟨xs, rfl, hs⟩ := Rd_fz hS h hn hv
      exact .val (.list t) xs a (hs.keep fun t j g => ⟨hF t j g, by rw [hH]⟩)
    | _ => simp only [argFit1] at h; subst h; exact key hv
  | nil t =>
    cases v <;> simp only [argFit1] at h
    cases hv
    exact .nil t
  | nilp => simp only [argFit1] at h; subst h; cases hv; exact .nilp
  | fn f cs =>
    cases cs with
    | nil =>
      simp only [argFit1] at h
      subst h
      cases hv with
      | fn _ _ as hl => cases hl; exact .fn f [] [] .nil
    | cons c cs => simp only [argFit1] at h
  | _ => simp only [argFit1] at h
theorem argsFit1_fz (hS : St m σ) {σ0 : List Obj} (hf : Frz σ0 σ) {m2 : MS} (hH : m2.H = m.H) (hF : ∀ t j, m.F t j = some 0 → m2.F t j = some 0) : ∀ {vs ws : List V} {as : List AV}, argsFit1 σ0 vs ws → (∀ v ∈ vs, notArr σ v) → VTL m σ vs as → VTL m2 [] ws as
  | [], [], _, _, _, .nil => .nil
  | v :: vs, w :: ws, _, h, hn, .cons _ a _ as h1 h2 => .cons _ _ _ _ (argFit1_fz hS hH hF (argFit1_frz hf h.1) (hn v (by simp)) h1) (argsFit1_fz hS hf hH hF h.2 (fun x hx => hn x (by simp [hx])) h2)
  | [], _ :: _, _, h, _, _ => h.elim
  | _ :: _, [], _, h, _, _ => h.elim
theorem argsFit_fz (hS : St m σ) {σ0 : List Obj} (hf : Frz σ0 σ) {m2 : MS} (hH : m2.H = m.H) (hF : ∀ t j, m.F t j = some 0 → m2.F t j = some 0) : ∀ {vs ws : List V} {as : List AV}, argsFit σ0 vs ws → (∀ v ∈ vs, ∀ c ∈ v.cells, notArr σ c) → VTL m σ vs as → VTL m2 [] ws as
  | [], [], _, _, _, .nil => .nil
  | v :: vs, w :: ws, _, h, hn, .cons _ a _ as h1 h2 => by
    refine .cons _ _ _ _ ?_ (argsFit_fz hS hf hH hF h.2 (fun x hx => hn x (by simp [hx])) h2)
    have h0 := h.1
    cases w with
    | agg ws =>
      cases v <;> simp only [argFit] at h0
      cases h1 with
      | agg _ as hl => exact .agg _ _ (argsFit1_fz hS hf hH hF h0 (fun c hc => hn (.agg _) (List.mem_cons_self ..) c hc) hl)
    | _ =>
      refine argFit1_fz hS hH hF (argFit1_frz hf h0) ?_ h1
      cases v <;> first | exact trivial | exact hn _ (List.mem_cons_self ..) _ (List.mem_cons_self ..)
  | [], _ :: _, _, h, _, _ => h.elim
  | _ :: _, [], _, h, _, _ => h.elim
/-- All that is known is frozen. -/
def coverM (m : MS) : MS := ⟨fun t j => (m.F t j).map fun _ => 0, m.H, m.ι⟩
def onlyFz (m : MS) : MS := ⟨fun t j => if m.F t j = some 0 then some 0 else none, m.H, m.ι⟩
theorem callT_sound (hS : St m σ) (hs : m.H s = []) {f : Nat} {vs : List V} {as : List AV} (hv : VTL m σ vs as) {K : V → List Obj → Prop} (h : callT P σ f vs K) :
    CallV P f as m.H s fun av H' => ∃ v σ' m', m'.H = H' ∧ Step m σ s v av m' σ' ∧ K v σ' := by
  obtain ⟨cargs, rs, σ1, ⟨hen, hc⟩, hfit, hk⟩ := h
  split at hk
  · rename_i hp
    simp only [Bool.and_eq_true] at hp
    have h1 := hc (coverM m) s as (fun t j k e => by simp only [coverM] at e; cases h : m.F t j <;> simp [h] at e) hs
      ⟨fun id o ho => by simp at ho, fun t j k e => by
        simp only [coverM] at e
        cases h : m.F t j with
        | none => simp [h] at e
        | some k' => exact hS.dom t j k' h⟩ (argsFit_sound (m2 := coverM m) hS rfl (fun t j k e => by simp [coverM, e]) hfit hv)
    refine h1.mono fun av H' ⟨m1, e1, g1, g2, g3, g4⟩ => ?_
    have hno : ∀ t j k, t ≠ s → m1.F t j ≠ some (k + 1) := fun t j k ht e => by
      obtain ⟨_, h2⟩ := g3 t j ht (fun k e => by simp only [coverM] at e; cases h : m.F t j <;> simp [h] at e)
      rw [h2] at e
      simp only [coverM] at e
      cases h : m.F t j <;> simp [h] at e
    have hHs : ∀ t j, t ≠ s → m1.H.ob t j = m.H.ob t j := fun t j ht => (g3 t j ht (fun k e => by simp only [coverM] at e; cases h : m.F t j <;> simp [h] at e)).1
    let m2 : MS := ⟨fun t j => if t = s then m1.F t j else if m.F t j = some 0 then some 0 else none, m1.H, m1.ι⟩
    have hown : ∀ t j k, m1.F t j = some (k + 1) → m2.F t j = some (k + 1) := fun t j k e => by
      have ht : t = s := Classical.byContradiction fun c => hno t j k c e
      simp only [m2, ht, if_true]; rw [← ht]; exact e
    have hS2 : St m2 σ1 := ⟨fun id o ho => OT.plain (m := m1) (m2 := m2) rfl rfl hown (List.all_eq_true.1 hp.2 o (List.mem_of_getElem? ho)) (g1.obj id o ho), fun t j k e => by
      simp only [m2] at e
      split at e
      · exact g1.dom t j k e
      · rename_i ht
        split at e
        · rename_i e0
          obtain ⟨o, ho⟩ := hS.dom t j 0 e0
          exact ⟨o, by show m1.H.ob t j = _; rw [hHs t j ht]; exact ho⟩
        · cases e⟩
    have hF0 : ∀ t j, t ≠ s → m2.F t j = some 0 → m.F t j = some 0 := fun t j ht e => by
      simp only [m2, ht, if_false] at e
      split at e
      · assumption
      · cases e
    obtain ⟨r1, r2, r3⟩ := join_step hS hs hS2 hHs hF0 (fun t j k ht e => by
      simp only [m2, ht, if_false] at e
      split at e <;> cases e)
    exact ⟨_, _, joinM m m2 s σ.length, e1, ⟨r1, r2, r3, VT.shift hF0 (VT.plain (m := m1) (m2 := m2) rfl rfl g4 hp.1)⟩, hk⟩
  · obtain ⟨m0, e0, f1, f2, f3⟩ := frzs_step (s := s) vs hS hs
    have hlen : (frzs σ vs).length = σ.length := (frzs_frz vs σ).1
    rw [← hlen] at hk
    have h1 := hc (onlyFz m0) s as (fun t j k e => by simp only [onlyFz] at e; split at e <;> cases e) (by simp only [onlyFz]; rw [e0]; exact hs)
      ⟨fun id o ho => by simp at ho, fun t j k e => by
        simp only [onlyFz] at e
        split at e
        · rename_i h; exact f1.dom t j 0 h
        · cases e⟩ (argsFit_fz (m := m0) (m2 := onlyFz m0) f1 (frzs_frz vs σ) rfl (fun t j e => by simp [onlyFz, e]) hfit (frzs_not vs σ) (hv.keep f2))
    rw [show (onlyFz m0).H = m.H from e0] at h1
    refine h1.mono fun av H' ⟨m1, e1, g1, g2, g3, g4⟩ => ?_
    have hne : ∀ t j k, (onlyFz m0).F t j ≠ some (k + 1) := fun t j k e => by simp only [onlyFz] at e; split at e <;> cases e
    have hF0 : ∀ t j, t ≠ s → m1.F t j = some 0 → m0.F t j = some 0 := fun t j ht e => by
      rw [(g3 t j ht (hne t j)).2] at e
      simp only [onlyFz] at e
      split at e
      · assumption
      · cases e
    obtain ⟨r1, r2, r3⟩ := join_step f1 (by rw [e0]; exact hs) g1 (fun t j ht => (g3 t j ht (hne t j)).1) hF0 (fun t j k ht e => by
      rw [(g3 t j ht (hne t j)).2] at e
      exact hne t j k e)
    exact ⟨_, _, joinM m0 m1 s (frzs σ vs).length, e1, ⟨r1, f2.trans r2, f3.trans r3, VT.shift hF0 g4⟩, hk⟩
end
end Go.Proofs.YtbcdcbamdahnpaaTv
end
