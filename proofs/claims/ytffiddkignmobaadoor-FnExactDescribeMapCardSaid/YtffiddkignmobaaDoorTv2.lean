/- A typed weakest precondition over that logic, proved sound: for every program with a table of types that fits it. -/
import Derived.Test.YtffiddkignmobaaDoorTv1
set_option linter.unusedVariables false
set_option linter.unusedSimpArgs false
section
/- TV, part K: appending, loading, storing, copying. -/
namespace Go.Proofs.YtffiddkignmobaaDoorTv
open Go.Proofs.YtffiddkignmobaaDoorVe
section
variable {P : Program} {tab : List (Nat × TE)} {m : MS} {σ : List Obj} {s : Nat} {ρ : Operand → V} {ρv : Operand → AV} {K : V → List Obj → Prop}
theorem VT.nil_inv {t : Ty} {a : AV} (h : VT m σ (.nil t) a) : a = .nil := by cases h; rfl
theorem flat_map1 {α β : Type} (f : α → β) : ∀ l : List α, (l.map fun n => [f n]).flatten = l.map f
  | [] => rfl
  | x :: l => by simp [flat_map1 f l]
theorem bys_sh {G : Nat → Nat → Prop} {H : Heap} : ∀ l : List Int, All2 (fun x c => Sh G H (.int .u8) x c) l (l.map fun n => [AV.int .u8 n])
  | [] => trivial
  | _ :: l => ⟨rfl, bys_sh l⟩
theorem sh_nums {G : Nat → Nat → Prop} {H : Heap} : ∀ {l : List Int} {ch : List (List AV)}, All2 (fun x c => Sh G H (.int .u8) x c) l ch → numsU8 ch.flatten = some l
  | [], [], _ => rfl
  | n :: l, c :: ch, h => by
    have h1 : c = [.int .u8 n] := h.1
    have h2 := sh_nums h.2
    subst h1
    simp [numsU8, h2]
  | [], _ :: _, h => h.elim
  | _ :: _, [], h => h.elim
/-- append, as VE tells it. -/
theorem opE_append0 (hT : TabOk P tab) {t u : TypeId} {e : TE} {t' : Ty} (ht : look tab t = some e) (he : e.ty = .list t') {U : TI} (hu : ti P u = some U) (hU : U.d.isSS = true) {p q : Operand} {ts : Array TypeId} (hts : ts.toList = [t, u]) {as : Array Operand} (has : as.toList = [p, q])
    {H : Heap} {G : Nat → Nat → Prop} {xs : List t'.den} {chx : List (List AV)} (h1 : lenA (ρv q) = some xs.length) (h2 : rowA H t'.z (ρv q) = some chx.flatten) (h3 : (xs.length : Int) ≤ most) (h4 : All2 (fun x c => Sh G H t' x c) xs chx) :
    ∃ b, b ≤ 128 ∧ b ≠ 0 ∧ opE P s ρv H (.call ⟨.builtin .append, as, ts⟩) = addA t'.z (35184372088832 / b) H s (ρv p) xs.length chx.flatten := by
  obtain ⟨el, d, b, by', k1, k2, k3, k4, k5, _⟩ := tab_list hT ht he
  refine ⟨by', k3, k4, ?_⟩
  have hall : chx.flatten.all AV.isCell = true := by
    refine List.all_eq_true.2 fun a ha => ?_
    obtain ⟨c, hc, hac⟩ := List.mem_flatten.1 ha
    obtain ⟨i, hi⟩ := List.mem_iff_getElem?.1 hc
    have hi2 : i < xs.length := by rw [h4.length]; exact (List.getElem?_eq_some_iff.1 hi).1
    obtain ⟨y, hy, hsh⟩ := h4.get (List.getElem?_eq_getElem hi2)
    rw [hi] at hy; injection hy with hy; subst hy
    exact hsh.isCell a hac
  have hb : xs.length * by' ≤ 35184372088832 := by
    have a1 : xs.length * by' ≤ xs.length * 128 := Nat.mul_le_mul_left _ k3
    simp only [most] at h3
    omega
  simp only [opE, hts, has, List.map, builtinA, k1, hu, hU, Bool.true_eq_false, if_false, k2, h1, h2]
  rw [if_neg (by simp [k4, k5]), if_pos ⟨h4.cells, hb, zeroA_length t', hall⟩]
theorem opE_append (hT : TabOk P tab) {t u : TypeId} {e e' : TE} {t' : Ty} (ht : look tab t = some e) (he : e.ty = .list t') (hu : look tab u = some e') (he' : e'.ty = .list t') {p q : Operand} {ts : Array TypeId} (hts : ts.toList = [t, u]) {as : Array Operand} (has : as.toList = [p, q])
    {H : Heap} {G : Nat → Nat → Prop} {xs : List t'.den} {chx : List (List AV)} (h1 : lenA (ρv q) = some xs.length) (h2 : rowA H t'.z (ρv q) = some chx.flatten) (h3 : (xs.length : Int) ≤ most) (h4 : All2 (fun x c => Sh G H t' x c) xs chx) :
    ∃ b, b ≤ 128 ∧ b ≠ 0 ∧ opE P s ρv H (.call ⟨.builtin .append, as, ts⟩) = addA t'.z (35184372088832 / b) H s (ρv p) xs.length chx.flatten := by
  obtain ⟨el2, d2, b2, by2, j1, _⟩ := tab_list hT hu he'
  exact opE_append0 hT ht he j1 rfl hts has h1 h2 h3 h4
theorem room {b k : Nat} (hb : b ≤ 128) (h0 : b ≠ 0) (h : (k : Int) ≤ most) : k ≤ 35184372088832 / b := by
  rw [Nat.le_div_iff_mul_le (by omega)]
  have a1 : k * b ≤ k * 128 := Nat.mul_le_mul_left _ hb
  simp only [most] at h
  omega
/-- The slice of an own object, as VE tells it. -/
theorem addA_own {t : Ty} {l : List t.den} {ch : List (List AV)} {G : Nat → Nat → Prop} {H : Heap} {S J g off n mx : Nat} {cx : List AV} {mm : Nat} (ho : H.ob S J = some ⟨g, t.z, ch.flatten⟩) (h : All2 (fun x c => Sh G H t x c) l ch) (hn : off + n ≤ l.length) (hm : n + mm ≤ mx) :
    addA t.z mx H s (.sl S J g (off * t.z) n) mm cx = some (.sl S J (g + 1) 0 (n + mm), H.put S J ⟨g + 1, t.z, ((ch.drop off).take n).flatten ++ cx⟩) := by
  have h1 : off * t.z + n * t.z ≤ ch.flatten.length := by
    rw [h.cells, ← Nat.add_mul]; exact Nat.mul_le_mul_right _ hn
  simp only [addA, ho]
  rw [if_pos ⟨trivial, trivial, h1, hm⟩, flatten_sub ch off n h.chunk (by rw [← h.length]; exact hn)]
theorem appK_sound (hT : TabOk P tab) (hS : St m σ) (hs : m.H s = []) {t u : TypeId} {e : TE} {t' : Ty} (ht : look tab t = some e) (he : e.ty = .list t') {U : TI} (hu : ti P u = some U) (hU : U.d.isSS = true) {p q : Operand} {ts : Array TypeId} (hts : ts.toList = [t, u]) {as : Array Operand} (has : as.toList = [p, q])
    (hp : VT m σ (ρ p) (ρv p)) {xs : List t'.den} {chx : List (List AV)} (hlen : lenA (ρv q) = some xs.length) (hrow : rowA m.H t'.z (ρv q) = some chx.flatten) (hall : All2 (fun x c => Sh (anyF m) m.H t' x c) xs chx) (hf : t'.flat = true) (h1 : appK σ t' (ρ p) xs K) : Snd P m σ s ρv (.call ⟨.builtin .append, as, ts⟩) K := by
  unfold appK at h1
  have hmost : (xs.length : Int) ≤ most := by
    split at h1
    · by_cases hx : xs = []
      · subst hx; simp [most]
      · exact (h1.2 hx).1
    · obtain ⟨l, uu, e3, hn, hnm, hk⟩ := h1
      simp only [most]; omega
    · cases h1
  obtain ⟨b, hb1, hb2, hop⟩ := opE_append0 (s := s) hT ht he hu hU hts has hlen hrow hmost hall
  split at h1
  · rename_i t2 e2
    rw [e2] at hp
    rw [hp.nil_inv] at hop
    by_cases hx : xs = []
    · subst hx
      simp only [addA, List.length_nil, if_true] at hop
      exact Snd.same hS hop (.nil _) (h1.1 rfl)
    · have hx0 : ¬ xs.length = 0 := fun c => hx (List.length_eq_zero_iff.1 c)
      simp only [addA, if_neg hx0] at hop
      exact ⟨_, _, hop, _, _, _, rfl, newarr_step hS hs hmost (fun H' _ => hall.mono fun x c _ _ k => k.ow hf) rfl, (h1.2 hx).2⟩
  · rename_i id off n e2
    rw [e2] at hp
    obtain ⟨l, uu, e3, hn, hnm, hk⟩ := h1
    obtain ⟨g, ch, k1, k2, k3, k4⟩ := (hS.obj id _ e3).arr
    obtain ⟨o, k5, e4⟩ := hp.own_inv (kind_arr e3)
    rw [k1] at k5
    injection k5 with k5
    subst k5
    rw [e4, addA_own (s := s) k1 k2 hn (room hb1 hb2 hnm)] at hop
    have hput := Heap.ob_put (show m.H.ob (m.ι id).1 (m.ι id).2 = some _ from k1) ⟨g + 1, t'.z, ((ch.drop off).take n).flatten ++ chx.flatten⟩
    obtain ⟨r1, r2, r3⟩ := cons_step hS hs [id] [m.ι id] [] (m.ι id) (m.H.put (m.ι id).1 (m.ι id).2 ⟨g + 1, t'.z, ((ch.drop off).take n).flatten ++ chx.flatten⟩) (.arr t' ((l.drop off).take n ++ xs) true)
      (fun q hq => by simp at hq; subst hq; exact .inr ⟨id, by simp, k4⟩) (fun q hq => by simp at hq)
      (fun t j _ hh => by
        rw [hput, if_neg]
        rintro ⟨rfl, rfl⟩
        exact hh id k4 (by simp))
      (fun kp => by
        refine OT.of_flat (G := anyF m) (H := m.H) (g := g + 1) (ch := (ch.drop off).take n ++ chx) hf ?_ ?_ ?_ (((k2.drop off).take n).append hall)
        · simp only [MS.at, reι, if_true, hput, and_self, List.flatten_append]
        · simp [reι, reF]
        · have : ((l.drop off).take n ++ xs).length = n + xs.length := by simp; omega
          rw [this]; exact hnm)
      (fun q hq => by
        rcases hq with hq | hq
        · simp at hq; subst hq; exact ⟨⟨g + 1, t'.z, ((ch.drop off).take n).flatten ++ chx.flatten⟩, by rw [hput]; simp⟩
        · simp at hq)
    refine ⟨_, _, hop, _, _, ⟨reF m [id] [m.ι id] [] σ.length, m.H.put (m.ι id).1 (m.ι id).2 ⟨g + 1, t'.z, ((ch.drop off).take n).flatten ++ chx.flatten⟩, reι m σ.length (m.ι id)⟩, rfl, ⟨r1, r2, r3, ?_⟩, hk⟩
    refine .own _ _ _ _ (by simp [goneL]) fun t2 ht2 => ⟨⟨g + 1, t'.z, ((ch.drop off).take n).flatten ++ chx.flatten⟩, by simp only [MS.at, reι, if_true, hput, and_self], by simp [reι]⟩
  · exact h1.elim
theorem appFlat_sound (hT : TabOk P tab) (hS : St m σ) (hs : m.H s = []) {t u : TypeId} {e e' : TE} {t' : Ty} (ht : look tab t = some e) (he : e.ty = .list t') (hu : look tab u = some e') (he' : e'.ty = .list t') {p q : Operand} {ts : Array TypeId} (hts : ts.toList = [t, u]) {as : Array Operand} (has : as.toList = [p, q])
    (hp : VT m σ (ρ p) (ρv p)) (hq : VT m σ (ρ q) (ρv q)) (hf : t'.flat = true) (h : appFlat σ t' (ρ p) (ρ q) K) : Snd P m σ s ρv (.call ⟨.builtin .append, as, ts⟩) K := by
  obtain ⟨xs, h1, a, chx, ea, hsl, hlen, hrow, hG, hmost, hall⟩ := Rd_sound hS h hq
  injection ea with ea _
  subst ea
  obtain ⟨el2, d2, b2, by2, j1, _⟩ := tab_list hT hu he'
  exact appK_sound hT hS hs ht he j1 rfl hts has hp hlen hrow hall hf h1
/-- The rows of an own object. -/
theorem OT.rows {id : Nat} {t : Ty} {l : List t.den} (h : OT m σ id (.arr t l true)) : ∃ g, ∃ parts : List (List AV × List (Nat × Nat)), m.at id = some ⟨g, t.z, (parts.map (·.1)).flatten⟩ ∧ m.F (m.ι id).1 (m.ι id).2 = some (id + 1) ∧ (l.length : Int) ≤ most ∧ All2 (fun x p => Ow m.H t x p.1 p.2) l parts ∧ (m.ι id :: (parts.map (·.2)).flatten).Nodup ∧ ∀ p ∈ (parts.map (·.2)).flatten, m.F p.1 p.2 = some (id + 1) := by
  obtain ⟨o, O, h1, h2, h3, h4⟩ := h
  rcases h2 with ⟨e, _⟩ | ⟨s, j, g, parts, e, ho, rfl, hl, hp⟩
  · simp at e
  · simp only [List.cons.injEq, AV.sl.injEq, and_true] at e
    obtain ⟨e1, e2, e3⟩ := e
    have hF := h4 (s, j) (by simp)
    rw [← e1, ← e2] at ho hF h3
    exact ⟨g, parts, ho, hF, hl, hp, h3, fun p hp => h4 p (by simp [hp])⟩
theorem Ow.all_sh {G : Nat → Nat → Prop} {H : Heap} {t : Ty} {l : List t.den} {parts : List (List AV × List (Nat × Nat))} (h : All2 (fun x p => Ow H t x p.1 p.2) l parts) (hG : ∀ p ∈ (parts.map (·.2)).flatten, G p.1 p.2) : All2 (fun x c => Sh G H t x c) l (parts.map (·.1)) :=
  All2.map_right _ |>.2 (h.mono fun x p _ hpp k => k.sh fun q hq => hG q (by simp only [List.mem_flatten, List.mem_map]; exact ⟨p.2, ⟨p, hpp, rfl⟩, hq⟩))
theorem appOwn_sound (hT : TabOk P tab) (hS : St m σ) (hs : m.H s = []) {t u : TypeId} {e e' : TE} {t' : Ty} (ht : look tab t = some e) (he : e.ty = .list t') (hu : look tab u = some e') (he' : e'.ty = .list t') {p q : Operand} {ts : Array TypeId} (hts : ts.toList = [t, u]) {as : Array Operand} (has : as.toList = [p, q])
    (hp : VT m σ (ρ p) (ρv p)) (hq : VT m σ (ρ q) (ρv q)) (h : appOwn σ t' (ρ p) (ρ q) K) : Snd P m σ s ρv (.call ⟨.builtin .append, as, ts⟩) K := by
  unfold appOwn at h
  split at h
  · rename_i id off n id2 off2 n2 e1 e2
    rw [e1] at hp
    rw [e2] at hq
    obtain ⟨l, l2, e3, e4, hne, rfl, rfl, rfl, rfl, hnm, hk⟩ := h
    obtain ⟨g, parts, k1, k2, k3, k4, k5, k6⟩ := (hS.obj id _ e3).rows
    obtain ⟨g2, parts2, j1, j2, j3, j4, j5, j6⟩ := (hS.obj id2 _ e4).rows
    obtain ⟨o, k7, e5⟩ := hp.own_inv (kind_arr e3)
    rw [k1] at k7
    injection k7 with k7
    subst k7
    obtain ⟨o2, j7, e6⟩ := hq.own_inv (kind_arr e4)
    rw [j1] at j7
    injection j7 with j7
    subst j7
    have sh1 := Ow.all_sh (G := fun _ _ => True) k4 fun _ _ => trivial
    have sh2 := Ow.all_sh (G := fun _ _ => True) j4 fun _ _ => trivial
    have hrow : rowA m.H t'.z (ρv q) = some (parts2.map (·.1)).flatten := by
      rw [e6]
      obtain ⟨_, ch, ea, _, _, hr, _, _, _⟩ := sub_sh (off := 0) (n := l2.length) j1 sh2 (by omega) j3 trivial
      injection ea with ea _
      simp only [rowA]
      split
      · rename_i e0
        have : (parts2.map (·.1)).flatten = [] := List.length_eq_zero_iff.1 (by rw [sh2.cells, e0]; simp)
        rw [this]
      · rw [show m.H.ob (m.ι id2).1 (m.ι id2).2 = _ from j1]
        simp only
        rw [if_pos ⟨trivial, trivial, by rw [sh2.cells]; simp⟩, Nat.zero_mul, List.drop_zero, List.take_of_length_le (by rw [sh2.cells]; exact Nat.le_refl _)]
    obtain ⟨b, hb1, hb2, hop⟩ := opE_append (s := s) hT ht he hu he' hts has (xs := l2) (by rw [e6]; rfl) hrow j3 sh2
    have ha := addA_own (s := s) (off := 0) (n := l.length) (cx := (parts2.map (·.1)).flatten) k1 sh1 (by omega) (room hb1 hb2 hnm)
    rw [List.drop_zero, List.take_of_length_le (by rw [sh1.length]; exact Nat.le_refl _)] at ha
    rw [e5, ha] at hop
    have hput := Heap.ob_put (show m.H.ob (m.ι id).1 (m.ι id).2 = some _ from k1) ⟨g + 1, t'.z, (parts.map (·.1)).flatten ++ (parts2.map (·.1)).flatten⟩
    have hd : ∀ q ∈ (parts2.map (·.2)).flatten, q ≠ m.ι id := fun q hq c => by
      have := j6 q hq
      rw [c, k2] at this
      injection this with this
      exact hne (by omega)
    have hO : ((parts ++ parts2).map (·.2)).flatten = (parts.map (·.2)).flatten ++ (parts2.map (·.2)).flatten := by simp
    have hid : id < σ.length := (List.getElem?_eq_some_iff.1 e3).1
    have hkeep : ∀ q ∈ ((parts ++ parts2).map (·.2)).flatten, (m.H.put (m.ι id).1 (m.ι id).2 ⟨g + 1, t'.z, (parts.map (·.1)).flatten ++ (parts2.map (·.1)).flatten⟩).ob q.1 q.2 = m.H.ob q.1 q.2 := fun q hq => by
      rw [hput, if_neg]
      rintro ⟨c1, c2⟩
      have c : q = m.ι id := Prod.ext c1 c2
      rw [hO] at hq
      rcases List.mem_append.1 hq with hq | hq
      · exact (List.nodup_cons.1 k5).1 (c ▸ hq)
      · exact hd q hq c
    obtain ⟨r1, r2, r3⟩ := cons_step hS hs [id, id2] (m.ι id :: ((parts ++ parts2).map (·.2)).flatten) [] (m.ι id) (m.H.put (m.ι id).1 (m.ι id).2 ⟨g + 1, t'.z, (parts.map (·.1)).flatten ++ (parts2.map (·.1)).flatten⟩) (.arr t' (l ++ l2) true)
      (fun q hq => by
        rcases List.mem_cons.1 hq with rfl | hq
        · exact .inr ⟨id, by simp, k2⟩
        · rw [hO] at hq
          rcases List.mem_append.1 hq with hq | hq
          · exact .inr ⟨id, by simp, k6 q hq⟩
          · exact .inr ⟨id2, by simp, j6 q hq⟩) (fun q hq => by simp at hq)
      (fun t j _ hh => by
        rw [hput, if_neg]
        rintro ⟨rfl, rfl⟩
        exact hh id k2 (by simp))
      (fun kp => by
        refine ⟨⟨g + 1, t'.z, (parts.map (·.1)).flatten ++ (parts2.map (·.1)).flatten⟩, m.ι id :: ((parts ++ parts2).map (·.2)).flatten, by simp only [MS.at, reι, if_true, hput, and_self], .inr ⟨(m.ι id).1, (m.ι id).2, g + 1, parts ++ parts2, ?_, ?_, rfl, ?_, ?_⟩, ?_, fun p hp => ?_⟩
        · simp [reι]
        · simp only [hput, and_self, if_true]; simp
        · simpa using hnm
        · refine (All2.append k4 j4).mono fun x p _ hpp k => k.keep fun q hq => hkeep q ?_
          simp only [List.mem_flatten, List.mem_map]
          exact ⟨p.2, ⟨p, hpp, rfl⟩, hq⟩
        · rw [hO]
          refine List.nodup_cons.2 ⟨fun c => ?_, List.nodup_append.2 ⟨(List.nodup_cons.1 k5).2, (List.nodup_cons.1 j5).2, fun q hq q' hq' c => ?_⟩⟩
          · rcases List.mem_append.1 c with c | c
            · exact (List.nodup_cons.1 k5).1 c
            · exact hd _ c rfl
          · subst c
            have a1 := k6 q hq
            rw [j6 q hq'] at a1
            injection a1 with a1
            exact hne (by omega)
        · simp only [reF, if_pos hp])
      (fun q hq => by
        rcases hq with hq | hq
        · rcases List.mem_cons.1 hq with rfl | hq
          · exact ⟨⟨g + 1, t'.z, (parts.map (·.1)).flatten ++ (parts2.map (·.1)).flatten⟩, by rw [hput]; simp⟩
          · rw [hkeep q hq]
            rw [hO] at hq
            rcases List.mem_append.1 hq with hq | hq
            · exact hS.dom _ _ _ (k6 q hq)
            · exact hS.dom _ _ _ (j6 q hq)
        · simp at hq)
    refine ⟨_, _, hop, _, _, ⟨reF m [id, id2] (m.ι id :: ((parts ++ parts2).map (·.2)).flatten) [] σ.length, m.H.put (m.ι id).1 (m.ι id).2 ⟨g + 1, t'.z, (parts.map (·.1)).flatten ++ (parts2.map (·.1)).flatten⟩, reι m σ.length (m.ι id)⟩, rfl, ⟨r1, r2, r3, ?_⟩, hk⟩
    refine .own _ _ _ _ (by simp [goneL]) fun t2 ht2 => ⟨⟨g + 1, t'.z, (parts.map (·.1)).flatten ++ (parts2.map (·.1)).flatten⟩, by simp only [MS.at, reι, if_true, hput, and_self], by simp [reι]⟩
  · exact h.elim
end
end Go.Proofs.YtffiddkignmobaaDoorTv
end
section
/- TV, part L: appending by value, loading, storing, copying. -/
namespace Go.Proofs.YtffiddkignmobaaDoorTv
open Go.Proofs.YtffiddkignmobaaDoorVe
section
variable {P : Program} {tab : List (Nat × TE)} {m : MS} {σ : List Obj} {s : Nat} {ρ : Operand → V} {ρv : Operand → AV} {K : V → List Obj → Prop}
theorem frzV_length (σ : List Obj) (v : V) : (frzV σ v).length = σ.length := by
  cases v <;> simp only [frzV]
  split <;> simp
theorem frzV_get {id : Nat} {x : V} (h : match x with | .own id2 _ _ => id ≠ id2 | _ => True) : (frzV σ x)[id]? = σ[id]? := by
  cases x <;> simp only [frzV]
  simp only at h
  split
  · rw [List.getElem?_set_ne (fun e => h e.symm)]
  · rfl
theorem sfrV_length (σ : List Obj) (v : V) : (sfrV σ v).length = σ.length := by
  cases v <;> simp only [sfrV]
  split <;> simp
theorem sfrV_get {id : Nat} {x : V} (h : match x with | .own id2 _ _ => id ≠ id2 | _ => True) : (sfrV σ x)[id]? = σ[id]? := by
  cases x <;> simp only [sfrV]
  simp only at h
  split
  · rw [List.getElem?_set_ne (fun e => h e.symm)]
  · rfl
theorem sfreeze_step (hS : St m σ) (hs : m.H s = []) {id : Nat} {t : Ty} {l : List t.den} {u : Bool} (h : σ[id]? = some (.arr t l u)) :
    ∃ m', m'.H = m.H ∧ St m' (σ.set id (.arr t l false)) ∧ Kp m σ m' (σ.set id (.arr t l false)) ∧ Fr m m' s := by
  obtain ⟨g, ch, O, h1, h2, h3, h4, h5, _, _, h6⟩ := (hS.obj id _ h).foot
  have hid : id < σ.length := (List.getElem?_eq_some_iff.1 h).1
  have hι : reι m id (m.ι id) id = m.ι id := by simp [reι]
  have hat : (⟨reF m [id] [m.ι id] O id, m.H, reι m id (m.ι id)⟩ : MS).at id = m.at id := by unfold MS.at; simp only [hι]
  suffices hh : _ from ⟨⟨reF m [id] [m.ι id] O id, m.H, reι m id (m.ι id)⟩, rfl, hh⟩
  refine mk_step hS hs [id] [m.ι id] O id (m.ι id) m.H (σ' := σ.set id (.arr t l false)) (by simp) (.inl (by simp))
    (fun q hq => .inr ⟨id, by simp, by simp at hq; subst hq; exact h2⟩)
    (fun q hq _ => .inr ⟨id, by simp, h4 q hq⟩) (fun _ _ _ _ => rfl) (fun i _ hi => by
      simp at hi
      rw [List.getElem?_set_ne (fun e => hi e.symm)]) (fun i hi _ κ hk => by
      simp at hi; subst hi
      simp [kind, hid, Obj.kind] at hk
      subst hk
      exact ⟨kind_arr h, hι, fun o ho => ⟨o, ho, rfl⟩⟩) (fun kp i o ho hi => ?_) (fun q hq => ?_)
  · have : i = id := by
      rcases hi with hi | hi
      · simpa using hi
      · have := (List.getElem?_eq_some_iff.1 ho).1
        simp at this; omega
    subst this
    simp [hid] at ho
    subst ho
    refine ⟨g, ch, hat.trans h1, ?_, h3, h6.mono fun x c _ _ k => k.keep fun s' j' hg => ⟨?_, rfl⟩⟩
    · simp [hι, reF]
    · rcases hg with hg | hg
      · exact (kp.fz s' j' hg).1
      · have hne : ¬ (s', j') = m.ι i := fun c => h5 (c ▸ hg)
        show reF m [i] [m.ι i] O i s' j' = some 0
        unfold reF
        rw [if_neg (by simpa using hne), if_pos hg]
  · rcases hq with hq | hq
    · simp at hq; subst hq; exact hS.dom _ _ _ h2
    · exact hS.dom _ _ _ (h4 q hq)
/-- A slice is read, and its rows freeze: what append and copy ask for. -/
theorem Rd_sfr (hS : St m σ) (hs : m.H s = []) {t : Ty} {v : V} {a : AV} {k : List t.den → Prop} (h : Rd σ t v k) (hv : VT m σ v a) :
    ∃ xs m', k xs ∧ m'.H = m.H ∧ St m' (sfrV σ v) ∧ Kp m σ m' (sfrV σ v) ∧ Fr m m' s ∧ ∃ ch : List (List AV), lenA a = some xs.length ∧ rowA m'.H t.z a = some ch.flatten ∧ All2 (fun x c => Sh m'.fz m'.H t x c) xs ch := by
  have hq : sfrV σ v = frzV σ v ∨ ∃ id off n t' l u, v = .own id off n ∧ σ[id]? = some (.arr t' l u) := by
    cases v with
    | own id off n =>
      cases e : σ[id]? with
      | none => exact .inl (by simp only [sfrV, frzV, e])
      | some o => cases o with
        | arr t' l u => exact .inr ⟨id, off, n, t', l, u, rfl, e⟩
        | _ => exact .inl (by simp only [sfrV, frzV, e])
    | _ => exact .inl rfl
  rcases hq with hq | ⟨id, off, n, t', l, u, rfl, e⟩
  · rw [hq]
    obtain ⟨xs, m1, h1, eH, hS1, hK1, hF1, a', chx, ea, hsl, hlen, hrow, hG, hmost, hall⟩ := Rd_frz hS hs h hv
    injection ea with ea _
    subst ea
    exact ⟨xs, m1, h1, eH, hS1, hK1, hF1, chx, hlen, hrow, hall⟩
  · obtain ⟨m', e1, h1, h2, h3⟩ := sfreeze_step (s := s) hS hs e
    have hid : id < σ.length := (List.getElem?_eq_some_iff.1 e).1
    have hf : sfrV σ (.own id off n) = σ.set id (.arr t' l false) := by simp only [sfrV, e]
    unfold Rd at h
    simp only at h
    split at h
    · obtain ⟨xs, u2, e2, hn, hk⟩ := h
      rw [e] at e2
      simp only [Option.some.injEq, Obj.arr.injEq] at e2
      obtain ⟨rfl, e3, rfl⟩ := e2
      cases e3
      have he : (σ.set id (.arr t' l false))[id]? = some (.arr t' l false) := by simp [hid]
      obtain ⟨g, ch, k1, k2, k3, k4⟩ := h1.obj id _ he
      obtain ⟨o, k5, rfl⟩ := (hv.keep h2).own_inv (kind_arr he)
      rw [k1] at k5
      injection k5 with k5
      subst k5
      refine ⟨_, m', hk, e1, by rw [hf]; exact h1, by rw [hf]; exact h2, h3, ?_⟩
      have hlen : ((l.drop off).take n).length = n := by simp; omega
      refine ⟨(ch.drop off).take n, by rw [hlen]; rfl, ?_, (k4.drop off).take n⟩
      rw [flatten_sub ch off n k4.chunk (by rw [← k4.length]; exact hn)]
      have hcl := k4.cells
      simp only [rowA, show m'.H.ob (m'.ι id).1 (m'.ι id).2 = some _ from k1]
      split
      · rename_i e; simp [e]
      · have : off * t'.z + n * t'.z ≤ ch.flatten.length := by
          rw [hcl, ← Nat.add_mul]; exact Nat.mul_le_mul_right _ hn
        rw [if_pos ⟨trivial, trivial, this⟩]
    · rename_i e2
      rw [e] at e2
      cases e2
    · exact h.elim
theorem appVal_sound (hT : TabOk P tab) (hS : St m σ) (hs : m.H s = []) {t u : TypeId} {e e' : TE} {t' : Ty} (ht : look tab t = some e) (he : e.ty = .list t') (hu : look tab u = some e') (he' : e'.ty = .list t') {p q : Operand} {ts : Array TypeId} (hts : ts.toList = [t, u]) {as : Array Operand} (has : as.toList = [p, q])
    (hp : VT m σ (ρ p) (ρv p)) (hq : VT m σ (ρ q) (ρv q)) (h : appVal σ t' (ρ p) (ρ q) K) : Snd P m σ s ρv (.call ⟨.builtin .append, as, ts⟩) K := by
  unfold appVal at h
  obtain ⟨xs, m1, h1, eH, hS1, hK1, hF1, chx, hlen, hrow, hall⟩ := Rd_sfr hS hs h hq
  have hmost : (xs.length : Int) ≤ most := by
    split at h1
    · obtain ⟨l, uu, e3, hne, hn, hnm, hk⟩ := h1
      simp only [most]; omega
    · cases h1
  obtain ⟨b, hb1, hb2, hop⟩ := opE_append (s := s) hT ht he hu he' hts has hlen hrow hmost hall
  split at h1
  · rename_i id off n e2
    obtain ⟨l, uu, e3, hne, hn, hnm, hk⟩ := h1
    have hs1 : m1.H s = [] := by rw [eH]; exact hs
    have e3' : (sfrV σ (ρ q))[id]? = some (.arr t' l uu) := by rw [sfrV_get hne]; exact e3
    obtain ⟨g, ch, O, k1, k4, k3, k5, k6, _, _, k2⟩ := (hS1.obj id _ e3').foot
    have hp1 := hp.keep hK1
    rw [e2] at hp1
    obtain ⟨o, k7, e4⟩ := hp1.own_inv (kind_arr e3')
    rw [k1] at k7
    injection k7 with k7
    subst k7
    rw [e4, addA_own (s := s) k1 k2 hn (room hb1 hb2 hnm)] at hop
    have hput := Heap.ob_put (show m1.H.ob (m1.ι id).1 (m1.ι id).2 = some _ from k1) ⟨g + 1, t'.z, ((ch.drop off).take n).flatten ++ chx.flatten⟩
    obtain ⟨r1, r2, r3⟩ := cons_step hS1 hs1 [id] [m1.ι id] O (m1.ι id) (m1.H.put (m1.ι id).1 (m1.ι id).2 ⟨g + 1, t'.z, ((ch.drop off).take n).flatten ++ chx.flatten⟩) (.arr t' ((l.drop off).take n ++ xs) false)
      (fun q hq => by simp at hq; subst hq; exact .inr ⟨id, by simp, k4⟩) (fun q hq _ => .inr ⟨id, by simp, k5 q hq⟩)
      (fun t j _ hh => by
        rw [hput, if_neg]
        rintro ⟨rfl, rfl⟩
        exact hh id k4 (by simp))
      (fun kp => by
        refine ⟨g + 1, (ch.drop off).take n ++ chx, ?_, ?_, ?_, All2.append ?_ (hall.mono fun x c _ _ k => k.keep kp.fz)⟩
        · simp only [MS.at, reι, if_true, hput, and_self, List.flatten_append]
        · simp [reι, reF]
        · have : ((l.drop off).take n ++ xs).length = n + xs.length := by simp; omega
          rw [this]; exact hnm
        · refine ((k2.drop off).take n).mono fun x c _ _ k => k.keep fun s' j' hg => ?_
          rcases hg with hg | hg
          · exact kp.fz s' j' hg
          · have hne2 : ¬ (s', j') = m1.ι id := fun c => k6 (c ▸ hg)
            refine ⟨?_, ?_⟩
            · show reF m1 [id] [m1.ι id] O _ s' j' = some 0
              unfold reF
              rw [if_neg (by simpa using hne2), if_pos hg]
            · show (m1.H.put _ _ _).ob s' j' = _
              rw [hput, if_neg (fun c => hne2 (Prod.ext c.1 c.2))])
      (fun q hq => by
        rcases hq with hq | hq
        · simp at hq; subst hq; exact ⟨⟨g + 1, t'.z, ((ch.drop off).take n).flatten ++ chx.flatten⟩, by rw [hput]; simp⟩
        · rw [hput, if_neg (fun c => k6 (by have : q = m1.ι id := Prod.ext c.1 c.2; rw [← this]; exact hq))]
          exact hS1.dom _ _ _ (k5 q hq))
    have hfl := sfrV_length σ (ρ q)
    rw [← hfl] at hk
    have he5 : (⟨reF m1 [id] [m1.ι id] O (sfrV σ (ρ q)).length, m1.H.put (m1.ι id).1 (m1.ι id).2 ⟨g + 1, t'.z, ((ch.drop off).take n).flatten ++ chx.flatten⟩, reι m1 (sfrV σ (ρ q)).length (m1.ι id)⟩ : MS).H = m1.H.put (m1.ι id).1 (m1.ι id).2 ⟨g + 1, t'.z, ((ch.drop off).take n).flatten ++ chx.flatten⟩ := rfl
    refine ⟨_, _, by rw [← eH]; exact hop, _, _, ⟨reF m1 [id] [m1.ι id] O (sfrV σ (ρ q)).length, m1.H.put (m1.ι id).1 (m1.ι id).2 ⟨g + 1, t'.z, ((ch.drop off).take n).flatten ++ chx.flatten⟩, reι m1 (sfrV σ (ρ q)).length (m1.ι id)⟩, rfl, ⟨r1, hK1.trans r2, hF1.trans r3, ?_⟩, hk⟩
    refine .own _ _ _ _ (by simp [goneL]) fun t2 ht2 => ⟨⟨g + 1, t'.z, ((ch.drop off).take n).flatten ++ chx.flatten⟩, by simp only [MS.at, reι, if_true, hput, and_self], by simp [reι]⟩
  · exact h1.elim
theorem loadA_take {H : Heap} {n k : Nat} {a : AV} {as : List AV} (h : loadA H n a = some as) (hk : k ≤ n) : loadA H k a = some (as.take k) := by
  cases a <;> simp only [loadA] at h ⊢ <;> try (cases h; done)
  · split at h
    · rename_i o ho
      split at h
      · rename_i hc
        injection h with h
        subst h
        rw [if_pos ⟨hc.1, by omega⟩, List.take_take, Nat.min_eq_left hk]
      · cases h
    · cases h
  · split at h
    · injection h with h
      subst h
      rw [if_pos (by omega)]
      congr 1
      have : ∀ (l : List FT) (k n : Nat), k ≤ n → FT.avs (l.take k) = (FT.avs (l.take n)).take k := fun l => by
        induction l with
        | nil => intro k n _; simp [FT.avs]
        | cons c l ih =>
          intro k n hkn
          cases k with
          | zero => simp [FT.avs]
          | succ k =>
            cases n with
            | zero => omega
            | succ n => simp only [List.take_succ_cons, FT.avs]; rw [ih k n (by omega)]
      exact this _ _ _ hk
    · cases h
theorem isAgg_rec {e : TE} (h : dOk tab e) : e.d.isAgg = e.ty.isRec := by
  unfold dOk at h
  split at h <;> simp_all [TD.isAgg, Ty.isRec]
theorem opE_loadAgg {t : TypeId} {e : TE} (h1 : ti P t = some ⟨e.d, e.ty.z, e.bytes, zeroA e.ty⟩) (hd : e.d.isAgg = true) {H : Heap} {a : Operand} {as : List AV} (h : loadA H e.ty.z (ρv a) = some as) : opE P s ρv H (.load t a) = some (.agg as, H) := by
  simp only [opE, h1, h, hd, if_true]
theorem opE_load1 {t : TypeId} {e : TE} (h1 : ti P t = some ⟨e.d, e.ty.z, e.bytes, zeroA e.ty⟩) (hd : e.d.isAgg = false) {H : Heap} {a : Operand} {v : AV} (h : loadA H e.ty.z (ρv a) = some [v]) : opE P s ρv H (.load t a) = some (v, H) := by
  simp [opE, h1, h, hd]
theorem z_one {t : Ty} (h : t.isRec = false) : t.z = 1 := by cases t <;> simp_all [Ty.isRec, Ty.z]
/-- What is loaded as typed data. -/
theorem load_typed {t : TypeId} {e : TE} (h1 : ti P t = some ⟨e.d, e.ty.z, e.bytes, zeroA e.ty⟩) (h2 : dOk tab e) {H : Heap} {a : Operand} {x : e.ty.den} {as : List AV} (h : loadA H e.ty.z (ρv a) = some as) (hx : Sh m.fz m.H e.ty x as) : ∃ v, opE P s ρv H (.load t a) = some (v, H) ∧ VT m σ (ofT e.ty x) v := by
  have hd := isAgg_rec h2
  cases hr : e.ty.isRec with
  | true => exact ⟨_, opE_loadAgg h1 (hd.trans hr) h, hx.ofT (by simp [recA, hr])⟩
  | false =>
    have hl := hx.length
    rw [z_one hr] at hl
    obtain ⟨v, rfl⟩ := List.length_eq_one_iff.1 hl
    exact ⟨v, opE_load1 h1 (hd.trans hr) h, hx.ofT (by simp [recA, hr])⟩
/-- The cells of an element. -/
theorem load_elem {t : Ty} {l : List t.den} {ch : List (List AV)} {G : Nat → Nat → Prop} {H : Heap} {S J g i : Nat} (ho : H.ob S J = some ⟨g, t.z, ch.flatten⟩) (h : All2 (fun x c => Sh G H t x c) l ch) (hi : i < l.length) : ∃ c, loadA H t.z (.ptr S J g (i * t.z)) = some c ∧ Sh G H t (rdT t l (i : Nat)) c := by
  obtain ⟨c, hc, hs⟩ := h.get (rdT_get t l (i : Nat) (by simpa using hi))
  simp only [Int.toNat_natCast] at hc
  refine ⟨c, ?_, hs⟩
  have hcl := h.cells
  have h2 : i + 1 ≤ ch.length := by rw [← h.length]; exact hi
  have h3 := flatten_sub ch i 1 h.chunk h2
  rw [Nat.one_mul] at h3
  have h4 : (ch.drop i).take 1 = [c] := by
    obtain ⟨h5, h6⟩ := List.getElem?_eq_some_iff.1 hc
    rw [List.drop_eq_getElem_cons h5, h6]; simp
  rw [h4] at h3
  simp only [loadA, ho]
  have h7 : i * t.z + t.z ≤ ch.flatten.length := by
    rw [hcl, ← Nat.succ_mul]; exact Nat.mul_le_mul_right _ hi
  rw [if_pos ⟨trivial, h7⟩, ← h3]
  simp
theorem load_sound0 (hT : TabOk P tab) (hS : St m σ) (hs : m.H s = []) {t : TypeId} {e : TE} (ht : look tab t = some e) {a : Operand} (ha : VT m σ (ρ a) (ρv a)) (h : loadT0 σ e (ρ a) K) : Snd P m σ s ρv (.load t a) K := by
  obtain ⟨h1, h2⟩ := hT t e ht
  unfold loadT0 at h
  split at h
  · rename_i cs e1
    rw [e1] at ha
    generalize hav : ρv a = av at ha
    cases ha with
    | pv _ _ as k1 k2 k3 =>
      split at h
      · rename_i hr
        have hl := loadA_take k1 (Nat.le_of_ble_eq_true h.1)
        rw [← hav] at hl
        exact Snd.same hS (opE_loadAgg h1 ((isAgg_rec h2).trans hr) hl) (.agg _ _ (k3.take _)) h.2
      · rename_i hr'
        cases k3 with
        | nil => exact h.elim
        | cons v a' vs as' q1 q2 =>
          have hl := loadA_take k1 (show 1 ≤ (v :: vs).length by simp)
          rw [← hav] at hl
          simp only [List.take_succ_cons, List.take_zero] at hl
          exact Snd.same hS (opE_load1 h1 ((isAgg_rec h2).trans hr') (by rw [z_one hr']; exact hl)) q1 h
  · rename_i id i e1
    rw [e1] at ha
    split at h
    · rename_i t' l u e2
      obtain ⟨rfl, hi, h⟩ := h
      obtain ⟨g, ch, O, k1, k2, k3, k4, k5, k6, k6', k7⟩ := (hS.obj id _ e2).foot
      obtain ⟨o, q1, q2⟩ := ha.pel_inv (kind_arr e2)
      rw [k1] at q1
      injection q1 with q1
      subst q1
      obtain ⟨c, c1, c2⟩ := load_elem k1 k7 hi
      rw [← q2] at c1
      split at h
      · rename_i hc
        have hsh : Sh m.fz m.H e.ty (rdT e.ty l i) c := by
          rcases hc with hc | hc
          · rw [c2.enc hc]; exact enc_sh _ _ _ hc
          · rw [k6' hc] at c2
            exact c2.keep fun s j hg => ⟨by show m.F s j = some 0; simpa using hg, rfl⟩
        obtain ⟨v, v1, v2⟩ := load_typed (σ := σ) (s := s) h1 h2 c1 hsh
        exact Snd.same hS v1 v2 h
      · obtain ⟨m', eH, f1, f2, f3⟩ := freeze_step hS hs e2
        have hid : id < σ.length := (List.getElem?_eq_some_iff.1 e2).1
        have he : (σ.set id (.frz e.ty l))[id]? = some (.frz e.ty l) := by simp [hid]
        obtain ⟨g', ch', j1, j2, j3, j4⟩ := (f1.obj id _ he).frz
        obtain ⟨o', q3, q4⟩ := (ha.keep f2).pel_inv (kind_frz he)
        rw [j1] at q3
        injection q3 with q3
        subst q3
        obtain ⟨c', d1, d2⟩ := load_elem j1 j2 hi
        rw [← q4, eH] at d1
        obtain ⟨v, v1, v2⟩ := load_typed (σ := σ.set id (.frz e.ty l)) (s := s) h1 h2 d1 d2
        exact ⟨_, _, v1, _, _, m', eH, ⟨f1, f2, f3, v2⟩, h⟩
    · rename_i t' l e2
      obtain ⟨rfl, hi, h⟩ := h
      obtain ⟨g', ch', j1, j2, j3, j4⟩ := (hS.obj id _ e2).frz
      obtain ⟨o', q3, q4⟩ := ha.pel_inv (kind_frz e2)
      rw [j1] at q3
      injection q3 with q3
      subst q3
      obtain ⟨c', d1, d2⟩ := load_elem j1 j2 hi
      rw [← q4] at d1
      obtain ⟨v, v1, v2⟩ := load_typed (σ := σ) (s := s) h1 h2 d1 d2
      exact Snd.same hS v1 v2 h
    · exact h.elim
  · rename_i id k e1
    rw [e1] at ha
    split at h
    · rename_i vs e2
      obtain ⟨hk, h⟩ := h
      have hk := Nat.le_of_ble_eq_true hk
      obtain ⟨g, z, as, k1, k2, k3⟩ := hS.obj id _ e2
      obtain ⟨o, q1, q2⟩ := ha.pcell_inv (kind_vars e2)
      rw [k1] at q1
      injection q1 with q1
      subst q1
      have hl : loadA m.H e.ty.z (ρv a) = some ((as.drop k).take e.ty.z) := by
        rw [q2]
        simp only [loadA, show m.H.ob (m.ι id).1 (m.ι id).2 = _ from k1]
        rw [if_pos ⟨trivial, by rw [← k3.length]; exact hk⟩]
      split at h
      · rename_i hr
        exact Snd.same hS (opE_loadAgg h1 ((isAgg_rec h2).trans hr) hl) (.agg _ _ ((k3.drop k).take _)) h
      · rename_i hr'
        rw [z_one hr'] at hk
        have hv : vs[k]? = some (vs.getD k .undef) := by
          rw [List.getD_eq_getElem?_getD, List.getElem?_eq_getElem (by omega)]; rfl
        obtain ⟨y, y1, y2⟩ := k3.get hv
        have : (as.drop k).take 1 = [y] := by
          obtain ⟨h5, h6⟩ := List.getElem?_eq_some_iff.1 y1
          rw [List.drop_eq_getElem_cons h5, h6]; simp
        rw [z_one hr', this] at hl
        exact Snd.same hS (opE_load1 h1 ((isAgg_rec h2).trans hr') (by rw [z_one hr']; exact hl)) y2 h
    · exact h.elim
  · exact h.elim
end
end Go.Proofs.YtffiddkignmobaaDoorTv
end
section
/- TV, part M: storing, copying. -/
namespace Go.Proofs.YtffiddkignmobaaDoorTv
open Go.Proofs.YtffiddkignmobaaDoorVe
section
variable {P : Program} {tab : List (Nat × TE)} {m : MS} {σ : List Obj} {s : Nat} {ρ : Operand → V} {ρv : Operand → AV} {K : V → List Obj → Prop}
/-- An object is changed in its place; those of C2 are let go. -/
theorem set_step (hS : St m σ) (hs : m.H s = []) {id : Nat} {o0 o' : Obj} (h0 : σ[id]? = some o0) (hk : o'.kind = o0.kind) (C2 : List Nat) (hnot : id ∉ C2) (O Z : List (Nat × Nat)) (H' : Heap)
    (hO : ∀ q ∈ O, ∃ k ∈ id :: C2, m.F q.1 q.2 = some (k + 1)) (hZ : ∀ q ∈ Z, q ∉ O → ∃ k ∈ id :: C2, m.F q.1 q.2 = some (k + 1))
    (hH : ∀ t j, (∀ k, m.F t j = some (k + 1) → k ∉ id :: C2) → H'.ob t j = m.H.ob t j)
    (hg : ∀ o, m.at id = some o → ∃ o', H'.ob (m.ι id).1 (m.ι id).2 = some o' ∧ o'.g = o.g)
    (hob : Kp m σ ⟨reF m (id :: C2) O Z id, H', reι m id (m.ι id)⟩ ((goneL σ C2).set id o') → OT ⟨reF m (id :: C2) O Z id, H', reι m id (m.ι id)⟩ ((goneL σ C2).set id o') id o')
    (dom : ∀ q, (q ∈ O ∨ q ∈ Z) → ∃ o, H'.ob q.1 q.2 = some o) :
    St ⟨reF m (id :: C2) O Z id, H', reι m id (m.ι id)⟩ ((goneL σ C2).set id o') ∧ Kp m σ ⟨reF m (id :: C2) O Z id, H', reι m id (m.ι id)⟩ ((goneL σ C2).set id o') ∧ Fr m ⟨reF m (id :: C2) O Z id, H', reι m id (m.ι id)⟩ s := by
  have hlen := goneL_length C2 σ
  have hid : id < σ.length := (List.getElem?_eq_some_iff.1 h0).1
  have hge : ((goneL σ C2).set id o')[id]? = some o' := by simp [hlen, hid]
  refine mk_step hS hs (id :: C2) O Z id (m.ι id) H' (by simp [hlen]) (.inl (by simp)) (fun q hq => .inr (hO q hq)) (fun q hq hn => .inr (hZ q hq hn)) (fun t j _ hh => hH t j hh) (fun i h1 h2 => ?_) (fun i hi hl κ hκ => ?_) (fun kp i o2 ho2 hi => ?_) dom
  · rw [List.getElem?_set_ne (fun e => h2 (by simp [e]))]
    exact goneL_other C2 σ (fun c => h2 (by simp [c]))
  · rcases List.mem_cons.1 hi with rfl | hi
    · unfold kind at hκ ⊢
      rw [hge] at hκ
      simp only [Option.bind_some] at hκ
      rw [hk] at hκ
      rw [h0]
      exact ⟨hκ, by simp [reι], hg⟩
    · have hne : i ≠ id := fun e => hnot (e ▸ hi)
      unfold kind at hκ
      rw [List.getElem?_set_ne (fun e => hne e.symm)] at hκ
      rcases goneL_in C2 σ hi with h | h <;> rw [h] at hκ <;> simp [Obj.kind] at hκ
  · by_cases hne : i = id
    · subst hne
      rw [hge] at ho2
      injection ho2 with e
      subst e
      exact hob kp
    · rw [List.getElem?_set_ne (fun e => hne e.symm)] at ho2
      have hi' : i ∈ C2 := by
        rcases hi with hi | hi
        · simpa [hne] using hi
        · have := (List.getElem?_eq_some_iff.1 ho2).1
          rw [hlen] at this; omega
      rcases goneL_in C2 σ hi' with h | h <;> rw [h] at ho2
      · cases ho2
      · injection ho2 with e; subst e; trivial
theorem flatten_set {α : Type} {z : Nat} : ∀ (l : List (List α)) (i : Nat) (c : List α), (∀ d ∈ l, d.length = z) → c.length = z → i < l.length → (l.set i c).flatten = l.flatten.take (i * z) ++ c ++ l.flatten.drop (i * z + z)
  | [], i, c, _, _, h => by simp at h
  | d :: l, 0, c, hz, hc, _ => by
    have hd := hz d (by simp)
    simp only [List.set_cons_zero, List.flatten_cons, Nat.zero_mul, List.take_zero, List.nil_append, Nat.zero_add]
    rw [List.drop_append, List.drop_of_length_le (by omega), hd]
    simp
  | d :: l, i + 1, c, hz, hc, h => by
    have hd := hz d (by simp)
    have ih := flatten_set l i c (fun x hx => hz x (by simp [hx])) hc (by simpa using h)
    simp only [List.set_cons_succ, List.flatten_cons]
    rw [ih, List.take_append, List.drop_append, List.take_of_length_le (l := d) (by rw [hd]; exact Nat.le_mul_of_pos_left z (by omega)), List.drop_of_length_le (l := d) (by rw [hd, Nat.succ_mul]; omega), hd]
    have e1 : (i + 1) * z - z = i * z := by rw [Nat.succ_mul]; omega
    have e2 : (i + 1) * z + z - z = i * z + z := by rw [Nat.succ_mul]; omega
    rw [e1, e2]
    simp
theorem opE_store {t : TypeId} {e : TE} (h1 : ti P t = some ⟨e.d, e.ty.z, e.bytes, zeroA e.ty⟩) {H : Heap} {a x : Operand} {S J g off : Nat} {o : Ob} (ha : ρv a = .ptr S J g off) (ho : H.ob S J = some o) (hg : o.g = g) (hx : (ρv x).cells.length = e.ty.z) (hoff : off + e.ty.z ≤ o.cells.length) (hc : (ρv x).cells.all AV.isCell = true) :
    opE P s ρv H (.store t a x) = some (.undef, H.put S J ⟨g, o.z, o.cells.take off ++ (ρv x).cells ++ o.cells.drop (off + e.ty.z)⟩) := by
  simp only [opE, h1, ha, ho]
  rw [if_pos ⟨hg, hx, hoff, hc⟩]
theorem storeFlat_sound (hT : TabOk P tab) (hS : St m σ) (hs : m.H s = []) {t : TypeId} {e : TE} (ht : look tab t = some e) {a x : Operand} (ha : VT m σ (ρ a) (ρv a)) (hx : VT m σ (ρ x) (ρv x)) {id i : Nat} (e1 : ρ a = .pel id i) {T : Ty} (hT' : e.ty = T) {l : List T.den} {u : Bool} (e2 : σ[id]? = some (.arr T l u)) (hf : T.flat = true) (hi : i < l.length)
    (h : elC T (ρ x).cells fun y r => r = [] ∧ K .undef (σ.set id (.arr T (l.set i y) u))) : Snd P m σ s ρv (.store t a x) K := by
  obtain ⟨h1, h2⟩ := hT t e ht
  subst hT'
  rw [e1] at ha
  obtain ⟨g, ch, k1, k2, k3, k4⟩ := (hS.obj id _ e2).arr
  obtain ⟨o, q1, q2⟩ := ha.pel_inv (kind_arr e2)
  rw [k1] at q1
  injection q1 with q1
  subst q1
  obtain ⟨y, y1, y2, _⟩ := elV_sound (k := fun y => K .undef (σ.set id (.arr e.ty (l.set i y) u))) h hx
  have hlen := y1.length
  have hi2 : i < ch.length := by rw [← k2.length]; exact hi
  have hop := opE_store (s := s) h1 q2 (show m.H.ob (m.ι id).1 (m.ι id).2 = some _ from k1) rfl hlen (by
    simp only
    rw [k2.cells, ← Nat.succ_mul]; exact Nat.mul_le_mul_right _ hi) (List.all_eq_true.2 fun b hb => y1.isCell b hb)
  simp only at hop
  rw [← flatten_set ch i (ρv x).cells k2.chunk hlen hi2] at hop
  have hput := Heap.ob_put (show m.H.ob (m.ι id).1 (m.ι id).2 = some _ from k1) ⟨g, e.ty.z, (ch.set i (ρv x).cells).flatten⟩
  obtain ⟨r1, r2, r3⟩ := set_step hS hs (o' := .arr e.ty (l.set i y) u) e2 rfl [] (by simp) [m.ι id] [] (m.H.put (m.ι id).1 (m.ι id).2 ⟨g, e.ty.z, (ch.set i (ρv x).cells).flatten⟩)
    (fun q hq => by simp at hq; subst hq; exact ⟨id, by simp, k4⟩) (fun q hq => by simp at hq)
    (fun t j hh => by
      rw [hput, if_neg]
      rintro ⟨rfl, rfl⟩
      exact hh id k4 (by simp))
    (fun o ho => by
      rw [k1] at ho; injection ho with ho; subst ho
      exact ⟨⟨g, e.ty.z, (ch.set i (ρv x).cells).flatten⟩, by rw [hput]; simp, rfl⟩)
    (fun kp => OT.of_flat (G := anyF m) (H := m.H) (g := g) (ch := ch.set i (ρv x).cells) hf (by simp only [MS.at, reι, if_true, hput, and_self]) (by simp [reι, reF]) (by simpa using k3) (k2.set i y1.any))
    (fun q hq => by
      rcases hq with hq | hq
      · simp at hq; subst hq; exact ⟨⟨g, e.ty.z, (ch.set i (ρv x).cells).flatten⟩, by rw [hput]; simp⟩
      · simp at hq)
  exact ⟨_, _, hop, .undef, _, _, rfl, ⟨r1, r2, r3, .undef _⟩, y2⟩
theorem storeRow_sound (hT : TabOk P tab) (hS : St m σ) (hs : m.H s = []) {t : TypeId} {e : TE} (ht : look tab t = some e) {t' : Ty} (he : e.ty = .list t') {a x : Operand} (ha : VT m σ (ρ a) (ρv a)) (hx : VT m σ (ρ x) (ρv x)) {id i : Nat} (e1 : ρ a = .pel id i) {l : List (List t'.den)} (e2 : σ[id]? = some (.arr (.list t') l true)) (hi : i < l.length)
    {id2 : Nat} {l2 : List t'.den} (e3 : ρ x = .own id2 0 l2.length) (e4 : σ[id2]? = some (.arr t' l2 true)) (hne : id ≠ id2) (h : K .undef ((σ.set id2 .gone).set id (.arr (.list t') (l.set i l2) true))) : Snd P m σ s ρv (.store t a x) K := by
  obtain ⟨h1, h2⟩ := hT t e ht
  rw [he] at h1
  rw [e1] at ha
  rw [e3] at hx
  obtain ⟨g, parts, k1, k2, k3, k4, k5, k6⟩ := (hS.obj id _ e2).rows
  obtain ⟨o2, O2, j1, j2, j3, j4⟩ := hS.obj id2 _ e4
  obtain ⟨o, q1, q2⟩ := ha.pel_inv (kind_arr e2)
  rw [k1] at q1
  injection q1 with q1
  subst q1
  obtain ⟨o3, q3, q4⟩ := hx.own_inv (kind_arr e4)
  rw [j1] at q3
  injection q3 with q3
  subst q3
  rw [Nat.zero_mul] at q4
  have hi2 : i < parts.length := by rw [← k4.length]; exact hi
  have sh1 := Ow.all_sh (G := fun _ _ => True) k4 fun _ _ => trivial
  have hc : (ρv x).cells = [.sl (m.ι id2).1 (m.ι id2).2 o2.g 0 l2.length] := by rw [q4]; rfl
  have hz : (Ty.list t').z = 1 := rfl
  have hop := opE_store (e := ⟨.list t', e.d, e.bytes⟩) (s := s) h1 q2 (show m.H.ob (m.ι id).1 (m.ι id).2 = some _ from k1) rfl (by rw [hc]; rfl) (by
    simp only
    rw [sh1.cells, ← Nat.succ_mul]; exact Nat.mul_le_mul_right _ hi) (by rw [hc]; rfl)
  simp only at hop
  rw [← flatten_set (parts.map (·.1)) i (ρv x).cells sh1.chunk (by rw [hc]; rfl) (by simpa using hi2), hc] at hop
  have hms : (parts.map (·.1)).set i [.sl (m.ι id2).1 (m.ι id2).2 o2.g 0 l2.length] = (parts.set i ([.sl (m.ι id2).1 (m.ι id2).2 o2.g 0 l2.length], O2)).map (·.1) := by rw [List.map_set]
  rw [hms] at hop
  generalize hnp : parts.set i ([.sl (m.ι id2).1 (m.ι id2).2 o2.g 0 l2.length], O2) = np at hop
  have hput := Heap.ob_put (show m.H.ob (m.ι id).1 (m.ι id).2 = some _ from k1) ⟨g, (Ty.list t').z, (np.map (·.1)).flatten⟩
  have hall : All2 (fun x p => Ow m.H (.list t') x p.1 p.2) (l.set i l2) np := by
    rw [← hnp]; exact k4.set i j2
  have hsub : ∀ q ∈ (np.map (·.2)).flatten, q ∈ (parts.map (·.2)).flatten ∨ q ∈ O2 := fun q hq => by
    simp only [List.mem_flatten, List.mem_map] at hq ⊢
    obtain ⟨_, ⟨p, hp, rfl⟩, hq⟩ := hq
    rw [← hnp] at hp
    rcases List.mem_or_eq_of_mem_set hp with hp | rfl
    · exact .inl ⟨p.2, ⟨p, hp, rfl⟩, hq⟩
    · exact .inr hq
  have hd : ∀ q ∈ (np.map (·.2)).flatten, q ≠ m.ι id := fun q hq c => by
    rcases hsub q hq with hq | hq
    · exact (List.nodup_cons.1 k5).1 (c ▸ hq)
    · have := j4 q hq
      rw [c, k2] at this
      injection this with this
      exact hne (by omega)
  have hnd : ((np.map (·.2)).flatten).Nodup := by
    rw [← hnp, List.map_set, List.set_eq_take_append_cons_drop]
    rw [if_pos (by simpa using hi2)]
    have hsp : (parts.map (·.2)).flatten = ((parts.map (·.2)).take i).flatten ++ ((parts.map (·.2)).drop i).flatten := by rw [← List.flatten_append, List.take_append_drop]
    have hk5 := (List.nodup_cons.1 k5).2
    rw [hsp] at hk5
    obtain ⟨n1, n2, n3⟩ := List.nodup_append.1 hk5
    have hdr : ((parts.map (·.2)).drop (i + 1)).flatten.Sublist ((parts.map (·.2)).drop i).flatten := by
      rw [List.drop_eq_getElem_cons (l := parts.map (·.2)) (i := i) (by simpa using hi2), List.flatten_cons]
      exact List.sublist_append_right _ _
    have hin1 : ∀ q ∈ ((parts.map (·.2)).take i).flatten, m.F q.1 q.2 = some (id + 1) := fun q hq => k6 q (by rw [hsp]; simp [hq])
    have hin2 : ∀ q ∈ ((parts.map (·.2)).drop (i + 1)).flatten, m.F q.1 q.2 = some (id + 1) := fun q hq => k6 q (by rw [hsp]; exact List.mem_append.2 (.inr (hdr.subset hq)))
    have hx2 : ∀ q, m.F q.1 q.2 = some (id + 1) → q ∉ O2 := fun q h1 h2 => by
      rw [j4 q h2] at h1
      injection h1 with h1
      exact hne (by omega)
    simp only [List.flatten_append, List.flatten_cons]
    refine List.nodup_append.2 ⟨n1, List.nodup_append.2 ⟨j3, n2.sublist hdr, fun a ha b hb c => ?_⟩, fun a ha b hb c => ?_⟩
    · subst c; exact hx2 a (hin2 a hb) ha
    · subst c
      rcases List.mem_append.1 hb with hb | hb
      · exact hx2 a (hin1 a ha) hb
      · exact n3 a ha a (hdr.subset hb) rfl
  have hF : ∀ q ∈ (np.map (·.2)).flatten, ∃ k ∈ [id, id2], m.F q.1 q.2 = some (k + 1) := fun q hq => by
    rcases hsub q hq with hq | hq
    · exact ⟨id, by simp, k6 q hq⟩
    · exact ⟨id2, by simp, j4 q hq⟩
  have hkeep : ∀ q ∈ (np.map (·.2)).flatten, (m.H.put (m.ι id).1 (m.ι id).2 ⟨g, (Ty.list t').z, (np.map (·.1)).flatten⟩).ob q.1 q.2 = m.H.ob q.1 q.2 := fun q hq => by
    rw [hput, if_neg (fun c => hd q hq (Prod.ext c.1 c.2))]
  obtain ⟨r1, r2, r3⟩ := set_step hS hs (o' := .arr (.list t') (l.set i l2) true) e2 rfl [id2] (by simpa using hne) (m.ι id :: (np.map (·.2)).flatten) [] (m.H.put (m.ι id).1 (m.ι id).2 ⟨g, (Ty.list t').z, (np.map (·.1)).flatten⟩)
    (fun q hq => by
      rcases List.mem_cons.1 hq with rfl | hq
      · exact ⟨id, by simp, k2⟩
      · exact hF q hq) (fun q hq => by simp at hq)
    (fun t j hh => by
      rw [hput, if_neg]
      rintro ⟨rfl, rfl⟩
      exact hh id k2 (by simp))
    (fun o ho => by
      rw [k1] at ho; injection ho with ho; subst ho
      exact ⟨⟨g, (Ty.list t').z, (np.map (·.1)).flatten⟩, by rw [hput]; simp, rfl⟩)
    (fun kp => by
      refine ⟨⟨g, (Ty.list t').z, (np.map (·.1)).flatten⟩, m.ι id :: (np.map (·.2)).flatten, by simp only [MS.at, reι, if_true, hput, and_self], .inr ⟨(m.ι id).1, (m.ι id).2, g, np, ?_, ?_, rfl, by simpa using k3, ?_⟩, ?_, fun p hp => ?_⟩
      · simp [reι]
      · simp only [hput, and_self, if_true]
      · refine hall.mono fun x p _ hpp k => k.keep fun q hq => hkeep q ?_
        simp only [List.mem_flatten, List.mem_map]
        exact ⟨p.2, ⟨p, hpp, rfl⟩, hq⟩
      · exact List.nodup_cons.2 ⟨fun c => hd _ c rfl, hnd⟩
      · simp only [reF, if_pos hp])
    (fun q hq => by
      rcases hq with hq | hq
      · rcases List.mem_cons.1 hq with rfl | hq
        · exact ⟨⟨g, (Ty.list t').z, (np.map (·.1)).flatten⟩, by rw [hput]; simp⟩
        · rw [hkeep q hq]
          obtain ⟨k, _, hk⟩ := hF q hq
          exact hS.dom _ _ _ hk
      · simp at hq)
  exact ⟨_, _, hop, .undef, _, _, rfl, ⟨r1, r2, r3, .undef _⟩, h⟩
theorem storeVar_sound (hT : TabOk P tab) (hS : St m σ) (hs : m.H s = []) {t : TypeId} {e : TE} (ht : look tab t = some e) {a x : Operand} (ha : VT m σ (ρ a) (ρv a)) (hx : VT m σ (ρ x) (ρv x)) {id k : Nat} (e1 : ρ a = .pcell id k) {vs : List V} (e2 : σ[id]? = some (.vars vs)) (hl : (ρ x).cells.all (liveV σ) = true) (hz : (ρ x).cells.length = e.ty.z) (hk : k + e.ty.z ≤ vs.length)
    (h : K .undef (σ.set id (.vars (vs.take k ++ (ρ x).cells ++ vs.drop (k + e.ty.z))))) : Snd P m σ s ρv (.store t a x) K := by
  obtain ⟨h1, h2⟩ := hT t e ht
  rw [e1] at ha
  obtain ⟨g, z, as, k1, k2, k3⟩ := hS.obj id _ e2
  obtain ⟨o, q1, q2⟩ := ha.pcell_inv (kind_vars e2)
  rw [k1] at q1
  injection q1 with q1
  subst q1
  obtain ⟨c1, c2⟩ := hx.cells hl
  have hop := opE_store (s := s) h1 q2 (show m.H.ob (m.ι id).1 (m.ι id).2 = some _ from k1) rfl (by rw [← c1.length]; exact hz) (by simp only; rw [← k3.length]; exact hk) c2
  simp only at hop
  have hput := Heap.ob_put (show m.H.ob (m.ι id).1 (m.ι id).2 = some _ from k1) ⟨g, z, as.take k ++ (ρv x).cells ++ as.drop (k + e.ty.z)⟩
  obtain ⟨r1, r2, r3⟩ := set_step hS hs (o' := .vars (vs.take k ++ (ρ x).cells ++ vs.drop (k + e.ty.z))) e2 rfl [] (by simp) [m.ι id] [] (m.H.put (m.ι id).1 (m.ι id).2 ⟨g, z, as.take k ++ (ρv x).cells ++ as.drop (k + e.ty.z)⟩)
    (fun q hq => by simp at hq; subst hq; exact ⟨id, by simp, k2⟩) (fun q hq => by simp at hq)
    (fun t j hh => by
      rw [hput, if_neg]
      rintro ⟨rfl, rfl⟩
      exact hh id k2 (by simp))
    (fun o ho => by
      rw [k1] at ho; injection ho with ho; subst ho
      exact ⟨⟨g, z, as.take k ++ (ρv x).cells ++ as.drop (k + e.ty.z)⟩, by rw [hput]; simp, rfl⟩)
    (fun kp => ⟨g, z, as.take k ++ (ρv x).cells ++ as.drop (k + e.ty.z), by simp only [MS.at, reι, if_true, hput, and_self], by simp [reι, reF], (((k3.take k).append c1).append (k3.drop _)).keep kp⟩)
    (fun q hq => by
      rcases hq with hq | hq
      · simp at hq; subst hq; exact ⟨⟨g, z, as.take k ++ (ρv x).cells ++ as.drop (k + e.ty.z)⟩, by rw [hput]; simp⟩
      · simp at hq)
  exact ⟨_, _, hop, .undef, _, _, rfl, ⟨r1, r2, r3, .undef _⟩, h⟩
theorem store_sound0 (hT : TabOk P tab) (hS : St m σ) (hs : m.H s = []) {t : TypeId} {e : TE} (ht : look tab t = some e) {a x : Operand} (ha : VT m σ (ρ a) (ρv a)) (hx : VT m σ (ρ x) (ρv x)) (h : storeT0 σ e (ρ a) (ρ x) K) : Snd P m σ s ρv (.store t a x) K := by
  unfold storeT0 at h
  split at h
  · rename_i id i e1
    split at h
    · rename_i t' e2
      obtain ⟨id2, n, l2, ls, e4, e5, rfl, hne, e6, hi, h⟩ := h
      exact storeRow_sound hT hS hs ht e2 ha hx e1 e6 hi e4 e5 hne h
    · obtain ⟨hf, ls, u, e2, hi, h⟩ := h
      exact storeFlat_sound hT hS hs ht ha hx e1 rfl e2 hf hi h
  · rename_i id k e1
    split at h
    · rename_i vs e2
      exact storeVar_sound hT hS hs ht ha hx e1 e2 h.1 h.2.1 (Nat.le_of_ble_eq_true h.2.2.1) h.2.2.2
    · exact h.elim
  · exact h.elim
end
end Go.Proofs.YtffiddkignmobaaDoorTv
end
section
/- TV, part Ma: a row is taken out of its object, and put back. -/
namespace Go.Proofs.YtffiddkignmobaaDoorTv
open Go.Proofs.YtffiddkignmobaaDoorVe
theorem at_split {α : Type} {l : List α} {i : Nat} {x : α} (h : l[i]? = some x) : ∃ a b, l = a ++ x :: b ∧ a.length = i := by
  obtain ⟨h1, h2⟩ := List.getElem?_eq_some_iff.1 h
  refine ⟨l.take i, l.drop (i + 1), ?_, by simp; omega⟩
  rw [← h2, ← List.drop_eq_getElem_cons h1, List.take_append_drop]
theorem All2.of_get {α β : Type} {R : α → β → Prop} : ∀ {l : List α} {m : List β}, l.length = m.length → (∀ (i : Nat) x y, l[i]? = some x → m[i]? = some y → R x y) → All2 R l m
  | [], [], _, _ => trivial
  | x :: l, y :: m, h, k => ⟨k 0 x y rfl rfl, All2.of_get (by simpa using h) fun i a b ha hb => k (i + 1) a b (by simpa using ha) (by simpa using hb)⟩
  | [], _ :: _, h, _ => by simp at h
  | _ :: _, [], h, _ => by simp at h
section
variable {P : Program} {tab : List (Nat × TE)} {m : MS} {σ : List Obj} {s : Nat} {ρ : Operand → V} {ρv : Operand → AV} {K : V → List Obj → Prop}
theorem OT.of_rows {id : Nat} {t : Ty} {l : List t.den} {g : Nat} {parts : List (List AV × List (Nat × Nat))} (h1 : m.at id = some ⟨g, t.z, (parts.map (·.1)).flatten⟩) (h3 : (l.length : Int) ≤ most) (h4 : All2 (fun x p => Ow m.H t x p.1 p.2) l parts) (h5 : (m.ι id :: (parts.map (·.2)).flatten).Nodup) (h6 : ∀ p ∈ m.ι id :: (parts.map (·.2)).flatten, m.F p.1 p.2 = some (id + 1)) : OT m σ id (.arr t l true) :=
  ⟨_, m.ι id :: (parts.map (·.2)).flatten, h1, .inr ⟨(m.ι id).1, (m.ι id).2, g, parts, rfl, h1, rfl, h3, h4⟩, h5, h6⟩
theorem kind_hole {id : Nat} {t : Ty} {l : List (List t.den)} {i : Nat} {v : V} (h : σ[id]? = some (.hole t l i v)) : kind σ id = some (some (.list t)) := by simp [kind, h, Obj.kind]
theorem split_step (hS : St m σ) {id i : Nat} {t : Ty} {l : List (List t.den)} (e : σ[id]? = some (.arr (.list t) l true)) (hi : i < l.length) (h : splitK σ id i t l K) :
    ∃ o c, m.at id = some o ∧ loadA m.H 1 (.ptr (m.ι id).1 (m.ι id).2 o.g (i * 1)) = some [c] ∧ ∃ v σ' m', m'.H = m.H ∧ Step m σ s v c m' σ' ∧ K v σ' := by
  obtain ⟨g, parts, k1, k2, k3, k4, k5, k6⟩ := (hS.obj id _ e).rows
  have hid : id < σ.length := (List.getElem?_eq_some_iff.1 e).1
  have hrow : l[i]? = some (l.getD i []) := by rw [List.getD_eq_getElem?_getD, List.getElem?_eq_getElem hi]; rfl
  obtain ⟨p, hp, ho⟩ := k4.get hrow
  unfold splitK at h
  generalize l.getD i [] = row at *
  have hlen := k4.length
  obtain ⟨pa, pb, rfl, rfl⟩ := at_split hp
  have hchunk : ∀ c ∈ (pa ++ p :: pb).map (·.1), c.length = 1 := (Ow.all_sh (G := fun _ _ => True) k4 fun _ _ => trivial).chunk
  have hp1 : p.1.length = 1 := hchunk _ (by simp)
  obtain ⟨c, hc⟩ : ∃ c, p.1 = [c] := List.length_eq_one_iff.1 hp1
  have hpa : (pa.map (·.1)).flatten.length = pa.length := by
    rw [flatten_length (z := 1) (fun d hd => hchunk d (by
      simp only [List.map_append, List.mem_append]; exact .inl hd))]
    simp
  have hload : loadA m.H 1 (.ptr (m.ι id).1 (m.ι id).2 g (pa.length * 1)) = some [c] := by
    have k1' : m.H.ob (m.ι id).1 (m.ι id).2 = some ⟨g, 1, ((pa ++ p :: pb).map (·.1)).flatten⟩ := k1
    simp only [loadA, k1']
    have e1 : ((pa ++ p :: pb).map (·.1)).flatten = (pa.map (·.1)).flatten ++ (c :: (pb.map (·.1)).flatten) := by simp [hc]
    rw [e1, if_pos ⟨trivial, by rw [List.length_append, List.length_cons]; omega⟩]
    rw [Nat.mul_one, List.drop_append_of_le_length (by omega), List.drop_of_length_le (by omega)]
    simp
  refine ⟨_, c, k1, hload, ?_⟩
  -- what the state looks like without the row
  have hother : ∀ (o o2 : Obj) (id0 : Nat), id0 < σ.length → id0 ≠ id → (σ.set id o ++ [o2])[id0]? = σ[id0]? := fun o o2 id0 h1 h2 => by
    rw [List.getElem?_append_left (by simpa using h1), List.getElem?_set_ne (fun c => h2 c.symm)]
  have hthis : ∀ (o o2 : Obj), (σ.set id o ++ [o2])[id]? = some o := fun o o2 => by
    rw [List.getElem?_append_left (by simpa using hid)]; simp [hid]
  have hkind : ∀ (v : V) (o2 : Obj) (id0 : Nat), id0 < σ.length → kind (σ.set id (.hole t l pa.length v) ++ [o2]) id0 = kind σ id0 := fun v o2 id0 h1 => by
    by_cases h2 : id0 = id
    · subst h2; rw [kind_arr e]; exact kind_hole (hthis _ _)
    · unfold kind; rw [hother _ _ _ h1 h2]
  have hrows : ∀ (j : Nat) (x : List t.den) (q : List AV × List (Nat × Nat)), l[j]? = some x → (pa ++ p :: pb)[j]? = some q → Ow m.H (.list t) x q.1 q.2 := fun j x q h1 h2 => by
    obtain ⟨y, hy, hk⟩ := k4.get h1
    rw [h2] at hy; injection hy with hy; subst hy; exact hk
  have hfl : ((pa ++ p :: pb).map (·.2)).flatten = (pa.map (·.2)).flatten ++ (p.2 ++ (pb.map (·.2)).flatten) := by simp
  rcases ho with ⟨e1, e2, e3⟩ | ⟨s', j', g', parts', e1, e2, e3, e4, e5⟩
  · -- nil
    have hc' : c = .nil := by rw [hc] at e1; simpa using e1
    subst hc'
    refine ⟨_, _, m, rfl, ?_, h.e e2⟩
    have kp : Kp m σ m (σ.set id (.hole t l pa.length (.nil t)) ++ [.gone]) := ⟨fun _ _ h => ⟨h, rfl⟩, by simp, fun id0 κ h1 h2 => ⟨by rw [hkind _ _ _ h1] at h2; exact h2, rfl, fun o ho => ⟨o, ho, rfl⟩⟩⟩
    refine ⟨⟨fun id0 o ho => ?_, hS.dom⟩, kp, Fr.refl m s, .nil t⟩
    by_cases h1 : id0 < σ.length
    · by_cases h2 : id0 = id
      · subst h2
        rw [hthis] at ho
        injection ho with ho
        subst ho
        exact ⟨g, _, _, ⟨k1, k2, k3, hlen.symm, fun j x q h1 h2 _ => hrows j x q h1 h2, by rw [hp, ← hc, ← e3], k5, k6⟩, .nil t⟩
      · rw [hother _ _ _ h1 h2] at ho
        exact (hS.obj id0 o ho).keep kp rfl fun _ _ h => ⟨h, rfl⟩
    · rw [List.getElem?_append_right (by simp; omega)] at ho
      have : id0 - (σ.set id (.hole t l pa.length (.nil t))).length = 0 := by
        have := (List.getElem?_eq_some_iff.1 ho).1
        simp at this ⊢; omega
      rw [this] at ho
      simp at ho
      subst ho
      trivial
  · have hc' : c = .sl s' j' g' 0 row.length := by rw [hc] at e1; simpa using e1
    subst hc'
    have hmem : (s', j') ∈ p.2 := by rw [e3]; simp
    have hin : ∀ q ∈ p.2, m.F q.1 q.2 = some (id + 1) := fun q hq => k6 q (by rw [hfl]; simp [hq])
    let m' : MS := ⟨fun S J => if (S, J) ∈ p.2 then some (σ.length + 1) else m.F S J, m.H, reι m σ.length (s', j')⟩
    have hF : ∀ S J, (S, J) ∉ p.2 → m'.F S J = m.F S J := fun S J h => by simp only [m', if_neg h]
    have hFn : ∀ S J k, m.F S J = some k → k ≠ id + 1 → (S, J) ∉ p.2 := fun S J k h1 h2 h3 => by
      have := hin _ h3
      simp only at this
      rw [h1] at this; injection this with this; exact h2 this
    have hι : ∀ id0, id0 < σ.length → m'.ι id0 = m.ι id0 := fun id0 h => by
      have : id0 ≠ σ.length := by omega
      simp [m', reι, this]
    have hιn : m'.ι σ.length = (s', j') := by simp [m', reι]
    have kp : Kp m σ m' (σ.set id (.hole t l pa.length (.own σ.length 0 row.length)) ++ [.arr t row true]) := ⟨fun S J h => ⟨(hF S J (hFn S J 0 h (by omega))).trans h, rfl⟩, by simp, fun id0 κ h1 h2 => ⟨by rw [hkind _ _ _ h1] at h2; exact h2, hι id0 h1, fun o ho => ⟨o, by unfold MS.at; rw [hι id0 h1]; exact ho, rfl⟩⟩⟩
    have hnew : (σ.set id (.hole t l pa.length (.own σ.length 0 row.length)) ++ [.arr t row true])[σ.length]? = some (.arr t row true) := by
      rw [List.getElem?_append_right (by simp)]; simp
    have hvt : VT m' (σ.set id (.hole t l pa.length (.own σ.length 0 row.length)) ++ [.arr t row true]) (.own σ.length 0 row.length) (.sl s' j' g' 0 row.length) :=
      .own _ _ _ _ (by simp) fun t' ht' => ⟨⟨g', t.z, (parts'.map (·.1)).flatten⟩, by unfold MS.at; rw [hιn]; exact e2, by rw [hιn, Nat.zero_mul]⟩
    rw [hfl] at k5
    obtain ⟨n0, n1⟩ := List.nodup_cons.1 k5
    obtain ⟨n2, n3, n4⟩ := List.nodup_append.1 n1
    obtain ⟨n5, n6, n7⟩ := List.nodup_append.1 n3
    refine ⟨_, _, m', rfl, ⟨⟨fun id0 o ho => ?_, fun S J k hk => ?_⟩, kp, fun S J _ hn => ⟨rfl, hF S J fun c => hn _ (hin _ c)⟩, hvt⟩, h.o⟩
    · by_cases h1 : id0 < σ.length
      · by_cases h2 : id0 = id
        · subst h2
          rw [hthis] at ho
          injection ho with ho
          subst ho
          have hz : ∀ q ∈ (pa.map (·.2)).flatten ++ (pb.map (·.2)).flatten, m'.F q.1 q.2 = some (id0 + 1) := fun q hq => by
            have hnp : q ∉ p.2 := fun c => by
              rcases List.mem_append.1 hq with hq | hq
              · exact n4 q hq q (by simp [c]) rfl
              · exact n7 q c q hq rfl
            rw [hF q.1 q.2 hnp]
            exact k6 q (by
              rw [hfl]
              rcases List.mem_append.1 hq with hq | hq <;> simp [hq])
          refine ⟨g, pa ++ ([.sl s' j' g' 0 row.length], []) :: pb, _, ⟨?_, ?_, k3, ?_, fun j x q h3 h4 h5 => ?_, by simp, ?_, fun q hq => hz q (by simpa using hq)⟩, hvt⟩
          · unfold MS.at
            rw [hι id0 h1]
            have e6 : ((pa ++ ([.sl s' j' g' 0 row.length], []) :: pb).map (·.1)).flatten = ((pa ++ p :: pb).map (·.1)).flatten := by simp [hc]
            rw [e6]; exact k1
          · rw [hι id0 h1, hF _ _ fun c => n0 (by simp [c])]; exact k2
          · rw [hlen]; simp
          · have h6 : (pa ++ p :: pb)[j]? = some q := by
              rcases Nat.lt_or_ge j pa.length with h7 | h7
              · rw [List.getElem?_append_left h7] at h4 ⊢; exact h4
              · rw [List.getElem?_append_right h7] at h4 ⊢
                have h8 : j - pa.length = (j - pa.length - 1) + 1 := by omega
                rw [h8] at h4 ⊢
                simpa using h4
            exact hrows j x q h3 h6
          · rw [hι id0 h1]
            have e6 : ((pa ++ (([.sl s' j' g' 0 row.length], []) : List AV × List (Nat × Nat)) :: pb).map (·.2)).flatten = (pa.map (·.2)).flatten ++ (pb.map (·.2)).flatten := by simp
            rw [e6]
            refine List.nodup_cons.2 ⟨fun c => n0 (by rcases List.mem_append.1 c with c | c <;> simp [c]), List.nodup_append.2 ⟨n2, n6, fun a ha b hb => n4 a ha b (by simp [hb])⟩⟩
        · rw [hother _ _ _ h1 h2] at ho
          exact (hS.obj id0 o ho).keep kp (hι id0 h1) fun S J h => ⟨(hF S J (hFn S J _ h (by omega))).trans h, rfl⟩
      · have h2 : id0 = σ.length := by
          have := (List.getElem?_eq_some_iff.1 ho).1
          simp at this; omega
        subst h2
        rw [hnew] at ho
        injection ho with ho
        subst ho
        refine ⟨⟨g', t.z, (parts'.map (·.1)).flatten⟩, p.2, by unfold MS.at; rw [hιn]; exact e2, .inr ⟨s', j', g', parts', by rw [hιn], e2, e3, e4, e5⟩, n5, fun q hq => by simp only [m', if_pos hq]⟩
    · by_cases hc : (S, J) ∈ p.2
      · exact hS.dom S J _ (hin _ hc)
      · rw [hF S J hc] at hk; exact hS.dom S J k hk
theorem hole_join (hS : St m σ) (hs : m.H s = []) {id i : Nat} {t : Ty} {l : List (List t.den)} {v : V} (e : σ[id]? = some (.hole t l i v)) {J : List (List t.den) → List Obj → Prop} (h : joinV σ id t l i v J) :
    ∃ l' σ' m', m'.H = m.H ∧ St m' σ' ∧ Kp m σ m' σ' ∧ Fr m m' s ∧ J l' σ' ∧ σ'[id]? = some (.arr (.list t) l' true) := by
  obtain ⟨g, parts, c, k, hv⟩ := hS.obj id _ e
  have hid : id < σ.length := (List.getElem?_eq_some_iff.1 e).1
  have hil : i < l.length := by rw [← k.len]; exact (List.getElem?_eq_some_iff.1 k.hol).1
  unfold joinV at h
  split at h
  · rename_i t0
    cases hv
    obtain ⟨r1, r2, r3⟩ := set_step hS hs (o' := .arr (.list t) (l.set i []) true) e rfl [] (by simp) (m.ι id :: (parts.map (·.2)).flatten) [] m.H
      (fun q hq => ⟨id, by simp, by
        rcases List.mem_cons.1 hq with rfl | hq
        · exact k.own
        · exact k.foot q hq⟩) (fun q hq => by simp at hq) (fun _ _ _ => rfl) (fun o ho => ⟨o, ho, rfl⟩)
      (fun kp => by
        have hat : (⟨reF m [id] (m.ι id :: (parts.map (·.2)).flatten) [] id, m.H, reι m id (m.ι id)⟩ : MS).ι id = m.ι id := by simp [reι]
        refine OT.of_rows (g := g) (parts := parts) (by unfold MS.at; rw [hat]; exact k.at') (by simpa using k.most') (All2.of_get (by simp [k.len]) fun j x p h1 h2 => ?_) (by rw [hat]; exact k.nd) (fun p hp => by rw [hat] at hp; simp only [reF, if_pos hp])
        by_cases hj : j = i
        · subst hj
          rw [k.hol] at h2
          injection h2 with h2
          subst h2
          rw [List.getElem?_set_self hil] at h1
          injection h1 with h1
          subst h1
          exact .inl ⟨rfl, rfl, rfl⟩
        · rw [List.getElem?_set_ne (fun c => hj c.symm)] at h1
          exact k.row j x p h1 h2 hj)
      (fun q hq => by
        rcases hq with hq | hq
        · rcases List.mem_cons.1 hq with rfl | hq
          · exact hS.dom _ _ _ k.own
          · exact hS.dom _ _ _ (k.foot q hq)
        · simp at hq)
    exact ⟨_, _, ⟨_, _, _⟩, by exact rfl, r1, r2, r3, h, by rw [List.getElem?_set_self]; rw [goneL_length]; exact hid⟩
  · rename_i id2 off n
    obtain ⟨row, e4, rfl, rfl, hne, h⟩ := h
    obtain ⟨o2, O2, j1, j2, j3, j4⟩ := hS.obj id2 _ e4
    obtain ⟨o3, q3, q4⟩ := hv.own_inv (kind_arr e4)
    rw [j1] at q3
    injection q3 with q3
    subst q3
    rw [Nat.zero_mul] at q4
    subst q4
    have kd := k.nd
    have kf := k.foot
    have ka := k.at'
    have kh := k.hol
    have kl := k.len
    have kr := k.row
    obtain ⟨pa, pb, rfl, rfl⟩ := at_split kh
    have hfl : ((pa ++ (([.sl (m.ι id2).1 (m.ι id2).2 o2.g 0 row.length], []) : List AV × List (Nat × Nat)) :: pb).map (·.2)).flatten = (pa.map (·.2)).flatten ++ (pb.map (·.2)).flatten := by simp
    rw [hfl] at kd kf
    obtain ⟨n0, n1⟩ := List.nodup_cons.1 kd
    obtain ⟨n2, n3, n4⟩ := List.nodup_append.1 n1
    have hx : ∀ q, m.F q.1 q.2 = some (id + 1) → q ∉ O2 := fun q h1 h2 => by
      rw [j4 q h2] at h1
      injection h1 with h1
      exact hne (by omega)
    let np : List (List AV × List (Nat × Nat)) := pa ++ ([.sl (m.ι id2).1 (m.ι id2).2 o2.g 0 row.length], O2) :: pb
    have hnf : (np.map (·.2)).flatten = (pa.map (·.2)).flatten ++ (O2 ++ (pb.map (·.2)).flatten) := by simp [np]
    have hF : ∀ q ∈ m.ι id :: (np.map (·.2)).flatten, ∃ k ∈ [id, id2], m.F q.1 q.2 = some (k + 1) := fun q hq => by
      rcases List.mem_cons.1 hq with rfl | hq
      · exact ⟨id, by simp, k.own⟩
      · rw [hnf] at hq
        rcases List.mem_append.1 hq with hq | hq
        · exact ⟨id, by simp, kf q (by simp [hq])⟩
        · rcases List.mem_append.1 hq with hq | hq
          · exact ⟨id2, by simp, j4 q hq⟩
          · exact ⟨id, by simp, kf q (by simp [hq])⟩
    obtain ⟨r1, r2, r3⟩ := set_step hS hs (o' := .arr (.list t) (l.set pa.length row) true) e rfl [id2] (by simpa using hne) (m.ι id :: (np.map (·.2)).flatten) [] m.H hF (fun q hq => by simp at hq) (fun _ _ _ => rfl) (fun o ho => ⟨o, ho, rfl⟩)
      (fun kp => by
        have hat : (⟨reF m [id, id2] (m.ι id :: (np.map (·.2)).flatten) [] id, m.H, reι m id (m.ι id)⟩ : MS).ι id = m.ι id := by simp [reι]
        refine OT.of_rows (g := g) (parts := np) ?_ (by simpa using k.most') (All2.of_get (by rw [List.length_set, ← kl]; simp [np]) fun j x p h1 h2 => ?_) ?_ (fun p hp => by rw [hat] at hp; simp only [reF, if_pos hp])
        · unfold MS.at
          rw [hat]
          have e6 : (np.map (·.1)).flatten = ((pa ++ (([.sl (m.ι id2).1 (m.ι id2).2 o2.g 0 row.length], []) : List AV × List (Nat × Nat)) :: pb).map (·.1)).flatten := by simp [np]
          rw [e6]; exact ka
        · by_cases hj : j = pa.length
          · subst hj
            have h3 : p = ([.sl (m.ι id2).1 (m.ι id2).2 o2.g 0 row.length], O2) := by simpa [np] using h2.symm
            subst h3
            rw [List.getElem?_set_self hil] at h1
            injection h1 with h1
            subst h1
            exact j2
          · rw [List.getElem?_set_ne (fun c => hj c.symm)] at h1
            refine kr j x p h1 ?_ hj
            rcases Nat.lt_or_ge j pa.length with h7 | h7
            · simp only [np] at h2
              rw [List.getElem?_append_left h7] at h2 ⊢; exact h2
            · simp only [np] at h2
              rw [List.getElem?_append_right h7] at h2 ⊢
              have h8 : j - pa.length = (j - pa.length - 1) + 1 := by omega
              rw [h8] at h2 ⊢
              simpa using h2
        · rw [hat, hnf]
          refine List.nodup_cons.2 ⟨fun c => ?_, List.nodup_append.2 ⟨n2, List.nodup_append.2 ⟨j3, n3, fun a ha b hb c => ?_⟩, fun a ha b hb c => ?_⟩⟩
          · rcases List.mem_append.1 c with c | c
            · exact n0 (by simp [c])
            · rcases List.mem_append.1 c with c | c
              · exact hx _ k.own c
              · exact n0 (by simp [c])
          · subst c
            exact hx a (kf a (by simp [hb])) ha
          · subst c
            rcases List.mem_append.1 hb with hb | hb
            · exact hx a (kf a (by simp [ha])) hb
            · exact n4 a ha a hb rfl)
      (fun q hq => by
        rcases hq with hq | hq
        · obtain ⟨k, _, hk⟩ := hF q hq
          exact hS.dom _ _ _ hk
        · simp at hq)
    exact ⟨_, _, ⟨_, _, _⟩, by exact rfl, r1, r2, r3, h, by rw [List.getElem?_set_self]; rw [goneL_length]; exact hid⟩
  · exact h.elim
theorem Step.then {m m1 m2 : MS} {σ σ1 σ2 : List Obj} {v : V} {a : AV} (h : Step m σ s v a m1 σ1) (h1 : St m2 σ2) (h2 : Kp m1 σ1 m2 σ2) (h3 : Fr m1 m2 s) : Step m σ s v a m2 σ2 := ⟨h1, h.kp.trans h2, h.fr.trans h3, h.vt.keep h2⟩
theorem joinV_live {id i : Nat} {t : Ty} {l : List (List t.den)} {v : V} {J : List (List t.den) → List Obj → Prop} (h : joinV σ id t l i v J) : liveV σ v = true ∧ v.cells = [v] := by
  cases v <;> simp only [joinV] at h
  · exact ⟨rfl, rfl⟩
  · obtain ⟨row, e4, _⟩ := h
    exact ⟨by simp [liveV, kind_arr e4], rfl⟩
theorem joinV_set {id i : Nat} {t : Ty} {l : List (List t.den)} {v : V} {o : Obj} {J : List (List t.den) → List Obj → Prop} (h : joinV σ id t l i v J) : joinV (σ.set id o) id t l i v J := by
  cases v <;> simp only [joinV] at h ⊢
  · rw [List.set_set]; exact h
  · obtain ⟨row, e4, e5, e6, e7, h⟩ := h
    refine ⟨row, by rw [List.getElem?_set_ne e7]; exact e4, e5, e6, e7, ?_⟩
    rw [List.set_comm _ _ e7, List.set_set]; exact h
theorem load_sound (hT : TabOk P tab) (hS : St m σ) (hs : m.H s = []) {t : TypeId} {e : TE} (ht : look tab t = some e) {a : Operand} (ha : VT m σ (ρ a) (ρv a)) (h : loadT σ e (ρ a) K) : Snd P m σ s ρv (.load t a) K := by
  obtain ⟨h1, h2⟩ := hT t e ht
  have row : ∀ {m' : MS} {σ' : List Obj} {id i : Nat} {t' : Ty} {l : List (List t'.den)}, m'.H = m.H → St m' σ' → Kp m σ m' σ' → Fr m m' s → ρ a = .pel id i → σ'[id]? = some (.arr (.list t') l true) → e.ty = .list t' → i < l.length → splitK σ' id i t' l K → Snd P m σ s ρv (.load t a) K := fun {m' σ' id i t' l} eH q1 q2 q3 e1 e2 he hi h => by
    rw [e1] at ha
    obtain ⟨o, c, k1, k2, v, σ2, m2, k3, k4, k5⟩ := split_step (s := s) q1 e2 hi h
    obtain ⟨o', p1, p2⟩ := (ha.keep q2).pel_inv (kind_arr e2)
    rw [k1] at p1
    injection p1 with p1
    subst p1
    have hz : (Ty.list t').z = 1 := rfl
    rw [eH] at k2
    have hop : opE P s ρv m.H (.load t a) = some (c, m.H) := opE_load1 h1 ((isAgg_rec h2).trans (by rw [he])) (by rw [he, p2]; exact k2)
    exact ⟨c, m.H, hop, v, σ2, m2, k3.trans eH, ⟨k4.st, q2.trans k4.kp, q3.trans k4.fr, k4.vt⟩, k5⟩
  unfold loadT at h
  split at h
  · rename_i id i e1
    split at h
    · rename_i t' l e2
      rcases h with h | ⟨he, hi, h⟩
      · exact load_sound0 hT hS hs ht ha (by rw [e1]; exact h)
      · exact row rfl hS (Kp.refl m σ) (Fr.refl m s) e1 e2 he hi h
    · rename_i t' l j v e2
      obtain ⟨he, ⟨rfl, h⟩ | h⟩ := h
      · obtain ⟨g, parts, c, k, hv⟩ := hS.obj id _ e2
        rw [e1] at ha
        obtain ⟨o', p1, p2⟩ := ha.pel_inv (kind_hole e2)
        rw [k.at'] at p1
        injection p1 with p1
        subst p1
        have kh := k.hol
        have hchunk : ∀ d ∈ parts.map (·.1), d.length = 1 := fun d hd => by
          obtain ⟨q, hq, rfl⟩ := List.mem_map.1 hd
          obtain ⟨n, hn⟩ := List.mem_iff_getElem?.1 hq
          by_cases hni : n = i
          · subst hni; rw [kh] at hn; injection hn with hn; subst hn; rfl
          · have hnl : n < l.length := by rw [← k.len]; exact (List.getElem?_eq_some_iff.1 hn).1
            exact (k.row n _ q (List.getElem?_eq_getElem hnl) hn hni).length
        have hl : loadA m.H 1 (.ptr (m.ι id).1 (m.ι id).2 g (i * 1)) = some [c] := by
          have k1 : m.H.ob (m.ι id).1 (m.ι id).2 = some ⟨g, 1, (parts.map (·.1)).flatten⟩ := k.at'
          obtain ⟨pa, pb, rfl, rfl⟩ := at_split kh
          have hpa : (pa.map (·.1)).flatten.length = pa.length := by
            rw [flatten_length (z := 1) (fun d hd => hchunk d (by
              simp only [List.map_append, List.mem_append]; exact .inl hd))]
            simp
          have e3 : ((pa ++ (([c], []) : List AV × List (Nat × Nat)) :: pb).map (·.1)).flatten = (pa.map (·.1)).flatten ++ (c :: (pb.map (·.1)).flatten) := by simp
          simp only [loadA, k1]
          rw [e3, if_pos ⟨trivial, by rw [List.length_append, List.length_cons]; omega⟩]
          rw [Nat.mul_one, List.drop_append_of_le_length (by omega), List.drop_of_length_le (by omega)]
          simp
        exact Snd.same hS (opE_load1 h1 ((isAgg_rec h2).trans (by rw [he])) (by rw [he, p2]; exact hl)) hv h
      · obtain ⟨l', σ', m', e3, q1, q2, q3, ⟨hi, h⟩, e4⟩ := hole_join hS hs e2 h
        exact row e3 q1 q2 q3 e1 e4 he hi h
    · exact load_sound0 hT hS hs ht ha (by rw [e1]; exact h)
  · exact load_sound0 hT hS hs ht ha h
theorem storeV_sound (hT : TabOk P tab) (hS : St m σ) (hs : m.H s = []) {t : TypeId} {e : TE} (ht : look tab t = some e) {t' : Ty} (he : e.ty = .list t') {a x : Operand} (ha : VT m σ (ρ a) (ρv a)) (hx : VT m σ (ρ x) (ρv x)) {id i : Nat} (e1 : ρ a = .pel id i) {l : List (List t'.den)} (e2 : σ[id]? = some (.arr (.list t') l false)) (hi : i < l.length)
    (hne : match ρ x with | .own id2 _ _ => id ≠ id2 | _ => True) (h : Rd σ t' (ρ x) fun xs => K .undef ((frzV σ (ρ x)).set id (.arr (.list t') (l.set i xs) false))) : Snd P m σ s ρv (.store t a x) K := by
  obtain ⟨h1, h2⟩ := hT t e ht
  rw [he] at h1
  obtain ⟨xs, m1, h, eH, hS1, hK1, hF1, hsh⟩ := Rd_frz hS hs h hx
  have hs1 : m1.H s = [] := by rw [eH]; exact hs
  have e3 : (frzV σ (ρ x))[id]? = some (.arr (.list t') l false) := by
    rw [← e2]
    cases hr : ρ x with
    | own id2 off n =>
      rw [hr] at hne
      simp only [frzV]
      split
      · rw [List.getElem?_set_ne (fun c => hne c.symm)]
      · rfl
    | _ => rfl
  obtain ⟨g, ch, k1, k2, k3, k4⟩ := hS1.obj id _ e3
  have ha1 := ha.keep hK1
  rw [e1] at ha1
  obtain ⟨o, q1, q2⟩ := ha1.pel_inv (kind_arr e3)
  rw [k1] at q1
  injection q1 with q1
  subst q1
  have hi2 : i < ch.length := by rw [← k4.length]; exact hi
  have hz : (Ty.list t').z = 1 := rfl
  have hcell : (ρv x).cells = [ρv x] := by
    obtain ⟨a0, _, e5, e6, _⟩ := hsh
    injection e5 with e5
    rw [e5]
    cases a0 <;> simp_all [isSl, AV.cells]
  have hok : [ρv x].all AV.isCell = true := List.all_eq_true.2 fun a ha => Sh.isCell hsh a ha
  have hop := opE_store (e := ⟨.list t', e.d, e.bytes⟩) (s := s) h1 q2 (show m1.H.ob (m1.ι id).1 (m1.ι id).2 = some _ from k1) rfl (by rw [hcell]; rfl) (by
    simp only
    rw [k4.cells, ← Nat.succ_mul]; exact Nat.mul_le_mul_right _ hi) (by rw [hcell]; exact hok)
  simp only at hop
  rw [← flatten_set ch i (ρv x).cells k4.chunk (by rw [hcell]; rfl) hi2, hcell] at hop
  have hput := Heap.ob_put (show m1.H.ob (m1.ι id).1 (m1.ι id).2 = some _ from k1) ⟨g, (Ty.list t').z, (ch.set i [ρv x]).flatten⟩
  obtain ⟨r1, r2, r3⟩ := set_step hS1 hs1 (o' := .arr (.list t') (l.set i xs) false) e3 rfl [] (by simp) [m1.ι id] [] (m1.H.put (m1.ι id).1 (m1.ι id).2 ⟨g, (Ty.list t').z, (ch.set i [ρv x]).flatten⟩)
    (fun q hq => by simp at hq; subst hq; exact ⟨id, by simp, k2⟩) (fun q hq => by simp at hq)
    (fun t j hh => by
      rw [hput, if_neg]
      rintro ⟨rfl, rfl⟩
      exact hh id k2 (by simp))
    (fun o ho => by
      rw [k1] at ho; injection ho with ho; subst ho
      exact ⟨⟨g, (Ty.list t').z, (ch.set i [ρv x]).flatten⟩, by rw [hput]; simp, rfl⟩)
    (fun kp => ⟨g, ch.set i [ρv x], by simp only [MS.at, reι, if_true, hput, and_self], by simp [reι, reF], by rw [List.length_set]; exact k3, (k4.set i hsh).mono fun x c _ _ k => k.keep kp.fz⟩)
    (fun q hq => by
      rcases hq with hq | hq
      · simp at hq; subst hq; exact ⟨⟨g, (Ty.list t').z, (ch.set i [ρv x]).flatten⟩, by rw [hput]; simp⟩
      · simp at hq)
  exact ⟨_, _, by rw [← eH]; exact hop, .undef, _, _, rfl, ⟨r1, hK1.trans r2, hF1.trans r3, .undef _⟩, h⟩
theorem store_sound (hT : TabOk P tab) (hS : St m σ) (hs : m.H s = []) {t : TypeId} {e : TE} (ht : look tab t = some e) {a x : Operand} (ha : VT m σ (ρ a) (ρv a)) (hx : VT m σ (ρ x) (ρv x)) (h : storeT σ e (ρ a) (ρ x) K) : Snd P m σ s ρv (.store t a x) K := by
  obtain ⟨h1, h2⟩ := hT t e ht
  unfold storeT at h
  split at h
  · rename_i id i e1
    split at h
    · rename_i t' l j v e2
      obtain ⟨he, rfl, h⟩ := h
      obtain ⟨g, parts, c, k, hv⟩ := hS.obj id _ e2
      have ha0 := ha
      rw [e1] at ha
      obtain ⟨o', p1, p2⟩ := ha.pel_inv (kind_hole e2)
      rw [k.at'] at p1
      injection p1 with p1
      subst p1
      have hid : id < σ.length := (List.getElem?_eq_some_iff.1 e2).1
      have kh := k.hol
      have hip : i < parts.length := (List.getElem?_eq_some_iff.1 kh).1
      have hchunk : ∀ d ∈ parts.map (·.1), d.length = 1 := fun d hd => by
        obtain ⟨q, hq, rfl⟩ := List.mem_map.1 hd
        obtain ⟨n, hn⟩ := List.mem_iff_getElem?.1 hq
        by_cases hni : n = i
        · subst hni; rw [kh] at hn; injection hn with hn; subst hn; rfl
        · have hnl : n < l.length := by rw [← k.len]; exact (List.getElem?_eq_some_iff.1 hn).1
          exact (k.row n _ q (List.getElem?_eq_getElem hnl) hn hni).length
      -- what is stored is one cell
      have hlive := joinV_live h
      obtain ⟨c1, c2⟩ := hx.live hlive.1
      have hk1 : m.H.ob (m.ι id).1 (m.ι id).2 = some ⟨g, 1, (parts.map (·.1)).flatten⟩ := k.at'
      rw [he] at h1
      have hop := opE_store (e := ⟨.list t', e.d, e.bytes⟩) (s := s) h1 (p2.trans (by rfl)) hk1 rfl (by rw [c2]; rfl) (by
        simp only
        rw [flatten_length hchunk, List.length_map]
        show i * 1 + 1 ≤ parts.length * 1
        omega) (by rw [c2]; simp [c1])
      simp only at hop
      rw [c2] at hop
      rw [show (Ty.list t').z = 1 from rfl, ← flatten_set (z := 1) (parts.map (·.1)) i [ρv x] hchunk rfl (by simpa using hip)] at hop
      have hms : (parts.map (·.1)).set i [ρv x] = (parts.set i ([ρv x], [])).map (·.1) := by rw [List.map_set]
      have hm2 : (parts.set i ([ρv x], [])).map (·.2) = parts.map (·.2) := by
        refine List.ext_getElem? fun n => ?_
        rw [List.getElem?_map, List.getElem?_map]
        by_cases hn : n = i
        · subst hn; rw [List.getElem?_set_self hip, kh]; rfl
        · rw [List.getElem?_set_ne (fun c => hn c.symm)]
      rw [hms] at hop
      generalize hnp : parts.set i ([ρv x], []) = np at hop hm2
      have hput := Heap.ob_put hk1 ⟨g, 1, (np.map (·.1)).flatten⟩
      have hkeep : ∀ q ∈ (parts.map (·.2)).flatten, (m.H.put (m.ι id).1 (m.ι id).2 ⟨g, 1, (np.map (·.1)).flatten⟩).ob q.1 q.2 = m.H.ob q.1 q.2 := fun q hq => by
        rw [hput, if_neg (fun c => (List.nodup_cons.1 k.nd).1 (by
          have : q = m.ι id := Prod.ext c.1 c.2
          rw [← this]; exact hq))]
      obtain ⟨r1, r2, r3⟩ := set_step hS hs (o' := .hole t' l i (ρ x)) e2 rfl [] (by simp) (m.ι id :: (parts.map (·.2)).flatten) [] (m.H.put (m.ι id).1 (m.ι id).2 ⟨g, 1, (np.map (·.1)).flatten⟩)
        (fun q hq => ⟨id, by simp, by
          rcases List.mem_cons.1 hq with rfl | hq
          · exact k.own
          · exact k.foot q hq⟩) (fun q hq => by simp at hq)
        (fun t j hh => by
          rw [hput, if_neg]
          rintro ⟨rfl, rfl⟩
          exact hh id k.own (by simp))
        (fun o ho => by
          rw [k.at'] at ho; injection ho with ho; subst ho
          exact ⟨⟨g, 1, (np.map (·.1)).flatten⟩, by rw [hput]; simp, rfl⟩)
        (fun kp => by
          have hat : (⟨reF m [id] (m.ι id :: (parts.map (·.2)).flatten) [] id, m.H.put (m.ι id).1 (m.ι id).2 ⟨g, 1, (np.map (·.1)).flatten⟩, reι m id (m.ι id)⟩ : MS).ι id = m.ι id := by simp [reι]
          refine ⟨g, np, ρv x, ⟨?_, ?_, k.most', by rw [← hnp]; simpa using k.len, fun n y q h3 h4 h5 => ?_, by rw [← hnp, List.getElem?_set_self hip], by rw [hat, hm2]; exact k.nd, fun q hq => by rw [hm2] at hq; simp only [reF, if_pos (List.mem_cons_of_mem _ hq)]⟩, hx.keep kp⟩
          · unfold MS.at; rw [hat, hput]; simp
          · rw [hat]; simp [reF]
          · rw [← hnp, List.getElem?_set_ne (fun c => h5 c.symm)] at h4
            exact (k.row n y q h3 h4 h5).keep fun z hz => hkeep z (part_mem h4 hz))
        (fun q hq => by
          rcases hq with hq | hq
          · rcases List.mem_cons.1 hq with rfl | hq
            · exact ⟨⟨g, 1, (np.map (·.1)).flatten⟩, by rw [hput]; simp⟩
            · rw [hkeep q hq]; exact hS.dom _ _ _ (k.foot q hq)
          · simp at hq)
      have hns : s ≠ (m.ι id).1 := fun c => by
        obtain ⟨o, ho⟩ := hS.dom _ _ _ k.own
        rw [← c] at ho; simp [Heap.ob, hs] at ho
      have hs' : (m.H.put (m.ι id).1 (m.ι id).2 ⟨g, 1, (np.map (·.1)).flatten⟩) s = [] := by
        unfold Heap.put; simp [Heap.upd, hns, hs]
      have e3 : (σ.set id (.hole t' l i (ρ x)))[id]? = some (.hole t' l i (ρ x)) := by simp [hid]
      have hj := joinV_set (o := .hole t' l i (ρ x)) h
      obtain ⟨l', σ', m', e4, q1, q2, q3, h, _⟩ := hole_join (s := s) r1 hs' e3 hj
      exact ⟨_, _, hop, .undef, _, m', e4, ⟨q1, r2.trans q2, r3.trans q3, .undef _⟩, h⟩
    · rename_i t' l e2
      obtain ⟨he, hi, hne, h⟩ := h
      exact storeV_sound hT hS hs ht he ha hx e1 e2 hi hne h
    · exact store_sound0 hT hS hs ht ha hx (by rw [e1]; exact h)
  · exact store_sound0 hT hS hs ht ha hx h
end
end Go.Proofs.YtffiddkignmobaaDoorTv
end
section
/- TV, part N: all operations are sound. -/
namespace Go.Proofs.YtffiddkignmobaaDoorTv
open Go.Proofs.YtffiddkignmobaaDoorVe
section
variable {P : Program} {tab : List (Nat × TE)} {m : MS} {σ : List Obj} {s : Nat} {ρ : Operand → V} {ρv : Operand → AV} {K : V → List Obj → Prop}
theorem tab_d (hT : TabOk P tab) {t : TypeId} {e : TE} (ht : look tab t = some e) : ti P t = some ⟨e.d, e.ty.z, e.bytes, zeroA e.ty⟩ := (hT t e ht).1
theorem tab_str (hT : TabOk P tab) {t : TypeId} {e : TE} (ht : look tab t = some e) (he : e.ty = .str) : e.d = .str := by
  have h := (hT t e ht).2
  unfold dOk at h
  rw [he] at h
  cases hd : e.d <;> simp_all
theorem tab_bool (hT : TabOk P tab) {t : TypeId} {e : TE} (ht : look tab t = some e) (he : e.ty = .bool) : e.d = .bool := by
  have h := (hT t e ht).2
  unfold dOk at h
  rw [he] at h
  cases hd : e.d <;> simp_all
theorem VT.list_inv {t : Ty} {x : List t.den} {a : AV} (h : VT m σ (.val (.list t) x) a) : Sh m.fz m.H (.list t) x [a] := by
  cases h with
  | val _ _ _ hs => exact hs
theorem Sh.list_inv {G : Nat → Nat → Prop} {H : Heap} {t : Ty} {l : List t.den} {a : AV} (h : Sh G H (.list t) l [a]) : ∃ ch, isSl a = true ∧ lenA a = some l.length ∧ rowA H t.z a = some ch.flatten ∧ inG G a ∧ (l.length : Int) ≤ huge ∧ All2 (fun x c => Sh G H t x c) l ch := by
  obtain ⟨b, ch, e, h1, h2, h3, h4, h5, h6⟩ := h
  injection e with e _
  subst e
  exact ⟨ch, h1, h2, h3, h4, h5, h6⟩
theorem eqA_neq {x : Bool} {op : BinOp} {t u : TypeId} {p q : Operand} (hb : binA op (ρv p) (ρv q) = none) (h : eqA P t (ρv p) (ρv q) = some x) (ho : op = .eql ∨ op = .neq) : opE P s ρv m.H (.binOp op t p q u) = some (.bool (if op = .eql then x else !x), m.H) := by
  rcases ho with rfl | rfl <;> simp [opE, hb, cmpA, h]
theorem eqT_sound (hT : TabOk P tab) (hS : St m σ) {t : TypeId} {e : TE} (ht : look tab t = some e) {x y : V} {a b : AV} (hx : VT m σ x a) (hy : VT m σ y b) {k : Bool → Prop} (h : eqT σ e.ty x y k) : ∃ r, eqA P t a b = some r ∧ (∀ op, binA op a b = none) ∧ k r := by
  have h1 := tab_d hT ht
  unfold eqT at h
  split at h
  · rename_i p q he
    have hd := tab_bool hT ht he
    rw [hx.bool_inv, hy.bool_inv]
    refine ⟨_, ?_, fun op => by simp [binA], h⟩
    simp only [eqA, h1, hd]
  · rename_i t' t1 t2 he
    obtain ⟨el, e', k1, _⟩ := dOk_list (hT t e ht).2 he
    rw [hx.nil_inv, hy.nil_inv]
    refine ⟨_, ?_, fun op => by simp [binA], h⟩
    simp only [eqA, h1, k1]
  · rename_i t' id off n t2 he
    obtain ⟨el, e', k1, _⟩ := dOk_list (hT t e ht).2 he
    obtain ⟨o, o1, rfl⟩ := hx.own_inv h.1
    rw [hy.nil_inv]
    refine ⟨_, ?_, fun op => by simp [binA], h.2⟩
    simp only [eqA, h1, k1]
  · exact h.elim
theorem opBin_sound (hT : TabOk P tab) (hS : St m σ) {op : BinOp} {t u : TypeId} {x y : Operand} (hx : VT m σ (ρ x) (ρv x)) (hy : VT m σ (ρ y) (ρv y)) (h : opBin tab σ op t (ρ x) (ρ y) fun v => K v σ) : Snd P m σ s ρv (.binOp op t x y u) K := by
  unfold opBin at h
  split at h
  · exact shift_sound hS hx hy h
  · rename_i hsh
    have hsh' : isShift op = false := by simpa using hsh
    split at h
    · rename_i k a k' b e1 e2
      exact bin_sound hS hx hy hsh' h
    · rename_i a b e1 e2
      exact bin_sound hS hx hy hsh' h
    · split at h
      · rename_i e ht
        obtain ⟨r, r1, r2, r3⟩ := eqT_sound hT hS ht hx hy h
        exact Snd.same hS (eqA_neq (r2 _) r1 (.inl rfl)) (by simp; exact VT.bool r) r3
      · rename_i e ht
        obtain ⟨r, r1, r2, r3⟩ := eqT_sound hT hS ht hx hy h
        exact Snd.same hS (eqA_neq (r2 _) r1 (.inr rfl)) (by simp; exact VT.bool (!r)) r3
      · exact h.elim
theorem low_sound {q : Option Operand} {k : Int → Prop} (hq : ∀ p, q = some p → VT m σ (ρ p) (ρv p)) (h : lowT q ρ k) : ∃ l, lowA (q.map ρv) = some l ∧ k l := by
  cases q with
  | none => exact ⟨0, rfl, h⟩
  | some q =>
    obtain ⟨i, e, hk⟩ := h
    have := hq q rfl
    rw [e] at this
    exact ⟨i, by simp [lowA, this.int_inv], hk⟩
theorem high_sound {q : Option Operand} {n : Nat} {k : Int → Prop} (hq : ∀ p, q = some p → VT m σ (ρ p) (ρv p)) (h : highT q ρ n k) : ∃ l, highA n (q.map ρv) = some l ∧ k l := by
  cases q with
  | none => exact ⟨n, rfl, h⟩
  | some q =>
    obtain ⟨i, e, hk⟩ := h
    have := hq q rfl
    rw [e] at this
    exact ⟨i, by simp [highA, this.int_inv], hk⟩
theorem slice_sound (hT : TabOk P tab) (hS : St m σ) {t : TypeId} {x : Operand} {lo hi mx : Option Operand} (hρ : ∀ q ∈ (Op.slice t x lo hi mx).operands, VT m σ (ρ q) (ρv q)) (h : opT tab σ ρ (.slice t x lo hi mx) K) : Snd P m σ s ρv (.slice t x lo hi mx) K := by
  have hx : VT m σ (ρ x) (ρv x) := hρ x (by simp [Op.operands])
  have hlo : ∀ p, lo = some p → VT m σ (ρ p) (ρv p) := fun p hp => hρ p (by simp [Op.operands, hp])
  have hhi : ∀ p, hi = some p → VT m σ (ρ p) (ρv p) := fun p hp => hρ p (by simp [Op.operands, hp])
  unfold opT at h
  simp only at h
  split at h
  · rename_i e b ht e1
    obtain ⟨he, h⟩ := h
    have h1 := tab_d hT ht
    rw [tab_str hT ht he] at h1
    rw [e1] at hx
    obtain ⟨l, l1, h⟩ := low_sound hlo h
    obtain ⟨hh, h2, hb, h⟩ := high_sound hhi h
    refine Snd.same hS ?_ (VT.str _) h
    simp only [opE, h1, hx.str_inv, l1, h2]
    rw [if_pos (by simp only [okInts, decide_eq_true_eq]; exact hb)]
  · rename_i e t' xs ht e1
    obtain ⟨he, hne, h⟩ := h
    obtain ⟨el, d, b, by', k1, k2, k3, k4, k5, _⟩ := tab_list hT ht he
    rw [e1] at hx
    obtain ⟨ch, s1, s2, s3, s4, s5, s6⟩ := hx.list_inv.list_inv
    obtain ⟨l, l1, h⟩ := low_sound hlo h
    obtain ⟨hh, h2, hb, h⟩ := high_sound hhi h
    have hab : l.toNat + (hh - l).toNat ≤ List.length xs := by omega
    have hcl := s6.cells
    generalize hav : ρv x = av at *
    cases av <;> simp only [isSl, Bool.false_eq_true] at s1
    · simp only [lenA, Option.some.injEq] at s2; omega
    · rename_i n cs
      simp only [lenA, Option.some.injEq] at s2
      subst s2
      simp only [rowA] at s3
      split at s3
      · rename_i hc
        injection s3 with s3
        refine Snd.same hS (av := .fz (hh - l).toNat ((cs.drop (l.toNat * t'.z)).take ((hh - l).toNat * t'.z))) ?_ (.val (.list t') _ _ ⟨_, (ch.drop l.toNat).take (hh - l).toNat, rfl, rfl, ?_, ?_, trivial, ?_, (s6.drop _).take _⟩) h
        · simp only [opE, k1, hav, k2, l1, h2]
          rw [if_pos (by simp only [okInts, decide_eq_true_eq]; exact hb)]
        · simp only [lenA]; congr 1; simp; omega
        · have hcs : cs.length = List.length xs * t'.z := hc
          have e2 : ((cs.drop (l.toNat * t'.z)).take ((hh - l).toNat * t'.z)).length = (hh - l).toNat * t'.z := by
            rw [List.length_take, List.length_drop, hcs]
            have := Nat.mul_le_mul_right t'.z hab
            rw [Nat.add_mul] at this
            omega
          simp only [rowA]
          rw [if_pos e2, flatten_sub ch _ _ s6.chunk (by rw [← s6.length]; exact hab), ← s3]
          simp only [avs_map, List.map_take, List.map_drop]
        · have : ((List.drop l.toNat xs).take (hh - l).toNat).length ≤ List.length xs := by simp; omega
          omega
      · cases s3
    · rename_i S J g off n
      simp only [lenA, Option.some.injEq] at s2
      subst s2
      have hn0 : ¬ List.length xs = 0 := hne
      simp only [rowA, if_neg hn0] at s3
      split at s3
      · rename_i o ho
        split at s3
        · rename_i hc
          injection s3 with s3
          refine Snd.same hS (av := .sl S J g (off + l.toNat * t'.z) (hh - l).toNat) ?_ (.val (.list t') _ _ ⟨_, (ch.drop l.toNat).take (hh - l).toNat, rfl, rfl, ?_, ?_, fun hn => s4 hn0, ?_, (s6.drop _).take _⟩) h
          · simp only [opE, k1, hav, k2, l1, h2, ho]
            rw [if_pos ⟨by simp only [okInts, decide_eq_true_eq]; exact hb, hc.2.1⟩]
          · simp only [lenA]; congr 1; simp; omega
          · simp only [rowA]
            split
            · rename_i e0; simp [e0]
            · rw [ho]
              simp only
              have := Nat.mul_le_mul_right t'.z hab
              rw [Nat.add_mul] at this
              rw [if_pos ⟨hc.1, hc.2.1, by omega⟩, flatten_sub ch _ _ s6.chunk (by rw [← s6.length]; exact hab), ← s3, List.drop_take, List.take_take, List.drop_drop]
              congr 2
              omega
          · have : ((List.drop l.toNat xs).take (hh - l).toNat).length ≤ List.length xs := by simp; omega
            omega
        · cases s3
      · cases s3
  · rename_i e id off n ht e1
    rw [e1] at hx
    have fin : ∀ {t' : Ty}, kind σ id = some (some t') → (∃ o, m.at id = some o ∧ o.z = t'.z) → e.ty = .list t' → (lowT lo ρ fun l => highT hi ρ n fun h => (0 ≤ l ∧ l ≤ h ∧ h ≤ n) ∧ K (.own id (off + l.toNat) (h - l).toNat) σ) → Snd P m σ s ρv (.slice t x lo hi none) K := by
      intro t' hk ⟨o, o1, o2⟩ he h
      obtain ⟨el, d, b, by', k1, k2, k3, k4, k5, _⟩ := tab_list hT ht he
      obtain ⟨o', p1, p2⟩ := hx.own_inv hk
      rw [o1] at p1
      injection p1 with p1
      subst p1
      obtain ⟨l, l1, h⟩ := low_sound hlo h
      obtain ⟨hh, h2, hb, h⟩ := high_sound hhi h
      have hid : id < σ.length := by
        rcases Nat.lt_or_ge id σ.length with h1 | h1
        · exact h1
        · simp [kind, List.getElem?_eq_none h1] at hk
      refine Snd.same hS (av := .sl (m.ι id).1 (m.ι id).2 o.g (off * t'.z + l.toNat * t'.z) (hh - l).toNat) ?_ (.own _ _ _ _ hid fun t2 ht2 => ?_) h
      · simp only [opE, k1, p2, k2, l1, h2, show m.H.ob (m.ι id).1 (m.ι id).2 = _ from o1]
        rw [if_pos ⟨by simp only [okInts, decide_eq_true_eq]; exact hb, o2⟩]
      · rw [hk] at ht2
        injection ht2 with ht2
        injection ht2 with ht2
        subst ht2
        exact ⟨o, o1, by rw [Nat.add_mul]⟩
    split at h
    · rename_i t' l u e2
      obtain ⟨g, ch, q1, _⟩ := (hS.obj id _ e2).arr
      exact fin (kind_arr e2) ⟨_, q1, rfl⟩ h.1 h.2
    · rename_i t' l e2
      obtain ⟨g, ch, q1, _⟩ := (hS.obj id _ e2).frz
      exact fin (kind_frz e2) ⟨_, q1, rfl⟩ h.1 h.2
    · exact h.elim
  · rename_i e t0 ht e1
    obtain ⟨⟨t', he, _⟩, h⟩ := h
    obtain ⟨el, d, b, by', k1, k2, _⟩ := tab_list hT ht he
    rw [e1] at hx
    obtain ⟨l, l1, h⟩ := low_sound hlo h
    obtain ⟨hh, h2, hb, h⟩ := high_sound hhi h
    refine Snd.same hS (av := .nil) ?_ (.nil _) h
    simp only [opE, k1, hx.nil_inv, k2, l1, h2]
    rw [if_pos (by simp only [okInts, decide_eq_true_eq]; exact hb)]
  · exact h.elim
end
end Go.Proofs.YtffiddkignmobaaDoorTv
end
section
/- TV, part O: all operations are sound (the rest). -/
namespace Go.Proofs.YtffiddkignmobaaDoorTv
open Go.Proofs.YtffiddkignmobaaDoorVe
section
variable {P : Program} {tab : List (Nat × TE)} {m : MS} {σ : List Obj} {s : Nat} {ρ : Operand → V} {ρv : Operand → AV} {K : V → List Obj → Prop}
theorem idx_val {t : TypeId} {t' : Ty} {el b : Nat} {zs : List AV} {d : TD} {by' : Nat} (h1 : ti P t = some ⟨.sl el, 1, b, zs⟩) (h2 : ti P el = some ⟨d, t'.z, by', zeroA t'⟩) {G : Nat → Nat → Prop} {H : Heap} {x q : Operand} {l : List t'.den} {k : IntKind} {i : Int} (hx : Sh G H (.list t') l [ρv x]) (hq : ρv q = .int k i) (h0 : 0 ≤ i) (hi : i < (l.length : Int)) :
    ∃ p c, opE P s ρv H (.indexAddr t x q) = some (p, H) ∧ loadA H t'.z p = some c ∧ Sh G H t' (rdT t' l i) c ∧ ∀ s' j g off, p = .ptr s' j g off → G s' j := by
  obtain ⟨ch, s1, s2, s3, s4, s5, s6⟩ := hx.list_inv
  have hin : i.toNat < l.length := by omega
  obtain ⟨c, hc, hs⟩ := s6.get (rdT_get t' l i hin)
  have hcl := s6.cells
  have h3 := flatten_sub ch i.toNat 1 s6.chunk (by rw [← s6.length]; exact hin)
  rw [Nat.one_mul] at h3
  have h4 : (ch.drop i.toNat).take 1 = [c] := by
    obtain ⟨h5, h6⟩ := List.getElem?_eq_some_iff.1 hc
    rw [List.drop_eq_getElem_cons h5, h6]; simp
  rw [h4] at h3
  simp only [List.flatten_cons, List.flatten_nil, List.append_nil] at h3
  have hm : i.toNat * t'.z + t'.z ≤ ch.flatten.length := by
    rw [hcl, ← Nat.succ_mul]; exact Nat.mul_le_mul_right _ hin
  generalize hav : ρv x = av at *
  cases av <;> simp only [isSl, Bool.false_eq_true] at s1
  · simp only [lenA, Option.some.injEq] at s2; omega
  · rename_i n cs
    simp only [lenA, Option.some.injEq] at s2
    subst s2
    simp only [rowA] at s3
    split at s3
    · rename_i hcs
      injection s3 with s3
      refine ⟨.fptr (cs.drop (i.toNat * t'.z)), c, by simp [opE, h1, hav, hq, h2, idxOf, h0, hi], ?_, hs, fun _ _ _ _ e => by cases e⟩
      have e1 : cs.length = ch.flatten.length := by rw [hcl]; exact hcs
      simp only [loadA]
      rw [if_pos (by rw [List.length_drop, e1]; omega), h3, ← s3]
      simp only [avs_map, List.map_take, List.map_drop]
    · cases s3
  · rename_i S J g off n
    simp only [lenA, Option.some.injEq] at s2
    subst s2
    have hn0 : ¬ l.length = 0 := by omega
    simp only [rowA, if_neg hn0] at s3
    split at s3
    · rename_i o ho
      split at s3
      · rename_i hcs
        injection s3 with s3
        refine ⟨.ptr S J g (off + i.toNat * t'.z), c, by simp [opE, h1, hav, hq, h2, idxOf, h0, hi], ?_, hs, fun s' j g' off' e => by injection e with e1 e2; subst e1; subst e2; exact s4 hn0⟩
        have h7 : i.toNat * t'.z + t'.z ≤ l.length * t'.z := by rw [← Nat.succ_mul]; exact Nat.mul_le_mul_right _ hin
        simp only [loadA, ho]
        rw [if_pos ⟨hcs.1, by omega⟩, h3, ← s3, List.drop_take, List.take_take, List.drop_drop]
        congr 2
        omega
      · cases s3
    · cases s3
theorem kind_lt {id : Nat} {κ : Option Ty} (h : kind σ id = some κ) : id < σ.length := by
  rcases Nat.lt_or_ge id σ.length with h1 | h1
  · exact h1
  · simp [kind, List.getElem?_eq_none h1] at h
theorem indexAddr_sound (hT : TabOk P tab) (hS : St m σ) {t : TypeId} {x i : Operand} (hx : VT m σ (ρ x) (ρv x)) (hi : VT m σ (ρ i) (ρv i)) (h : opT tab σ ρ (.indexAddr t x i) K) : Snd P m σ s ρv (.indexAddr t x i) K := by
  unfold opT at h
  simp only at h
  split at h
  · rename_i e t' xs k iv ht e1 e2
    obtain ⟨he, hb, h⟩ := h
    obtain ⟨el, d, b, by', k1, k2, _⟩ := tab_list hT ht he
    rw [e1] at hx
    rw [e2] at hi
    obtain ⟨p, c, p1, p2, p3, p4⟩ := idx_val (s := s) k1 k2 hx.list_inv hi.int_inv hb.1 hb.2
    refine Snd.same hS p1 (.pv _ _ c ?_ p4 p3.cells) h
    rw [cellsT_length]; exact p2
  · rename_i e id off n k iv ht e1 e2
    obtain ⟨hk, hl, hb, h⟩ := h
    have h := pelK_eq h
    rw [e1] at hx
    rw [e2] at hi
    cases het : e.ty with
    | list t' =>
      rw [het] at hk
      simp only at hk
      obtain ⟨el, d, b, by', k1, k2, _⟩ := tab_list hT ht het
      obtain ⟨o, o1, o2⟩ := hx.own_inv hk
      refine Snd.same hS (av := .ptr (m.ι id).1 (m.ι id).2 o.g (off * t'.z + iv.toNat * t'.z)) (by simp [opE, k1, o2, hi.int_inv, k2, idxOf, hb.1, hb.2]) (.pel _ _ _ (kind_lt hk) fun t2 ht2 => ?_) h
      rw [hk] at ht2
      injection ht2 with ht2
      injection ht2 with ht2
      subst ht2
      exact ⟨o, o1, by rw [Nat.add_mul]⟩
    | _ => rw [het] at hl; exact hl.elim
  · rename_i T n el b id k k' iv ht e1 e2
    split at h
    · rename_i e' ht'
      obtain ⟨hk, hb, h⟩ := h
      have h1 := tab_d hT ht
      have h2 := tab_d hT ht'
      rw [e1] at hx
      rw [e2] at hi
      obtain ⟨o, o1, o2⟩ := hx.pcell_inv hk
      refine Snd.same hS (av := .ptr (m.ι id).1 (m.ι id).2 o.g (k + iv.toNat * e'.ty.z)) (by simp [opE, h1, o2, hi.int_inv, h2, idxOf, hb.1, hb.2]) (.pcell _ _ _ (kind_lt hk) fun _ => ⟨o, o1, rfl⟩) h
    · exact h.elim
  · exact h.elim
theorem index_sound (hT : TabOk P tab) (hS : St m σ) {t : TypeId} {x i : Operand} (hx : VT m σ (ρ x) (ρv x)) (hi : VT m σ (ρ i) (ρv i)) (h : opT tab σ ρ (.index t x i) K) : Snd P m σ s ρv (.index t x i) K := by
  unfold opT at h
  simp only at h
  split at h
  · rename_i e b k iv ht e1 e2
    obtain ⟨he, hb, h⟩ := h
    have h1 := tab_d hT ht
    rw [tab_str hT ht he] at h1
    rw [e1] at hx
    rw [e2] at hi
    have hlt : Int.toNat iv < b.data.size := by
      have h1 : ∀ (i : Int) (n : Nat), 0 ≤ i ∧ i < n → i.toNat < n := fun i n h => by omega
      exact h1 _ _ hb
    refine Snd.same hS (av := .int .u8 (byteAt b iv)) ?_ (VT.int _) h
    simp only [opE, h1, hx.str_inv, hi.int_inv, idxOf]
    rw [if_pos hb]
    simp [byteAt, Array.getElem?_eq_getElem hlt]
  · exact h.elim
theorem fillV_sound {place : Nat → Option (Nat × Nat)} : ∀ {ps : List (Nat × V)} {qs : List (Nat × AV)} {cs : List V} {as : List AV} {k : List V → Prop}, fillV σ place cs ps k → ps.map (·.1) = qs.map (·.1) → VTL m σ (ps.map (·.2)) (qs.map (·.2)) → VTL m σ cs as → ∃ cs' as', fillA place as qs = some as' ∧ VTL m σ cs' as' ∧ k cs'
  | [], [], cs, as, k, h, _, _, hc => ⟨cs, as, rfl, hc, h⟩
  | [], _ :: _, _, _, _, _, e, _, _ => by simp at e
  | _ :: _, [], _, _, _, _, e, _, _ => by simp at e
  | (i, v) :: ps, (i', a) :: qs, cs, as, k, h, e, hv, hc => by
    simp only [List.map_cons, List.cons.injEq] at e hv
    obtain ⟨rfl, e⟩ := e
    cases hv with
    | cons _ _ _ _ v1 v2 =>
      unfold fillV at h
      split at h
      · exact h.elim
      · rename_i off size hp
        obtain ⟨h1, h2, h3, h4⟩ := h
        have h3 := Nat.le_of_ble_eq_true h3
        obtain ⟨c1, c2⟩ := v1.cells h1
        have hl := c1.length
        obtain ⟨cs', as', f1, f2, f3⟩ := fillV_sound h4 e v2 (((hc.take off).append c1).append (hc.drop (off + v.cells.length)))
        refine ⟨cs', as', ?_, f2, f3⟩
        simp only [fillA, hp]
        have hok : a.ok = true := by
          cases a <;> simp_all [AV.ok, AV.cells]
          simp [AV.isCell] at c2
        rw [if_neg (by rw [← hl, ← hc.length]; simp [hok]; omega), ← hl]
        exact f1
theorem VTL.map {l : List Operand} (h : ∀ q ∈ l, VT m σ (ρ q) (ρv q)) : VTL m σ (l.map ρ) (l.map ρv) := by
  induction l with
  | nil => exact .nil
  | cons q l ih => exact .cons _ _ _ _ (h q (by simp)) (ih fun p hp => h p (by simp [hp]))
theorem parts_vtl {ps : Array (Nat × Operand)} (h : ∀ p ∈ ps.toList, VT m σ (ρ p.2) (ρv p.2)) : VTL m σ (ps.toList.map fun p => ρ p.2) (ps.toList.map fun p => ρv p.2) := by
  have := VTL.map (ρ := ρ) (ρv := ρv) (l := ps.toList.map (·.2)) (m := m) (σ := σ) fun q hq => by
    obtain ⟨p, hp, rfl⟩ := List.mem_map.1 hq
    exact h p hp
  simpa [List.map_map, Function.comp_def] using this
theorem copy_sound (hT : TabOk P tab) (hS : St m σ) (hs : m.H s = []) {t u : TypeId} {e e' : TE} {t' : Ty} (ht : look tab t = some e) (he : e.ty = .list t') (hu : look tab u = some e') (he' : e'.ty = .list t') (hf : t'.flat = true) {p q : Operand} {ts : Array TypeId} (hts : ts.toList = [t, u]) {as : Array Operand} (has : as.toList = [p, q])
    (hp : VT m σ (ρ p) (ρv p)) (hq : VT m σ (ρ q) (ρv q)) {id off n : Nat} (e1 : ρ p = .own id off n)
    (h : Rd σ t' (ρ q) fun xs => ∃ l u, σ[id]? = some (.arr t' l u) ∧ off + n ≤ l.length ∧ K (.i (min xs.length n : Nat)) (σ.set id (.arr t' (l.take off ++ xs.take (min xs.length n) ++ l.drop (off + min xs.length n)) u))) : Snd P m σ s ρv (.call ⟨.builtin .copy, as, ts⟩) K := by
  obtain ⟨el, d, b, by', k1, k2, k3, k4, k5, _⟩ := tab_list hT ht he
  obtain ⟨el2, d2, b2, by2, j1, _⟩ := tab_list hT hu he'
  obtain ⟨xs, ⟨l, uu, e2, hn, h⟩, hsh⟩ := Rd_sound hS h hq
  obtain ⟨chx, s1, s2, s3, s4, s5, s6⟩ := hsh.list_inv
  obtain ⟨g, ch, o1, o2, o3, o4⟩ := (hS.obj id _ e2).arr
  rw [e1] at hp
  obtain ⟨o, q1, q2⟩ := hp.own_inv (kind_arr e2)
  rw [o1] at q1
  injection q1 with q1
  subst q1
  have hall : chx.flatten.all AV.isCell = true := by
    refine List.all_eq_true.2 fun a ha => ?_
    obtain ⟨c, hc, hac⟩ := List.mem_flatten.1 ha
    obtain ⟨i, hi⟩ := List.mem_iff_getElem?.1 hc
    have hi2 : i < xs.length := by rw [s6.length]; exact (List.getElem?_eq_some_iff.1 hi).1
    obtain ⟨y, hy, hs'⟩ := s6.get (List.getElem?_eq_getElem hi2)
    rw [hi] at hy; injection hy with hy; subst hy
    exact hs'.isCell a hac
  generalize hmn : min xs.length n = mn at *
  have hm1 : mn ≤ xs.length := by omega
  have hm2 : mn ≤ n := by omega
  have hnew : ch.flatten.take (off * t'.z) ++ chx.flatten.take (mn * t'.z) ++ ch.flatten.drop (off * t'.z + mn * t'.z) = (ch.take off ++ chx.take mn ++ ch.drop (off + mn)).flatten := by
    have f1 := flatten_sub ch 0 off o2.chunk (by rw [← o2.length]; omega)
    have f2 := flatten_sub chx 0 mn s6.chunk (by rw [← s6.length]; omega)
    have f3 := flatten_sub ch (off + mn) (ch.length - (off + mn)) o2.chunk (by rw [← o2.length]; omega)
    simp only [List.drop_zero, Nat.zero_mul] at f1 f2
    rw [List.take_of_length_le (by simp)] at f3
    rw [List.take_of_length_le (l := ch.flatten.drop _) (by
      rw [List.length_drop, o2.cells, o2.length, Nat.sub_mul]; exact Nat.le_refl _)] at f3
    simp only [List.flatten_append]
    rw [f1, f2, f3, Nat.add_mul]
  have hop : opE P s ρv m.H (.call ⟨.builtin .copy, as, ts⟩) = some (.int .i64 mn, m.H.put (m.ι id).1 (m.ι id).2 ⟨g, t'.z, (ch.take off ++ chx.take mn ++ ch.drop (off + mn)).flatten⟩) := by
    simp only [opE, hts, has, List.map, builtinA, k1, j1, k2, q2, s3, s2, show m.H.ob (m.ι id).1 (m.ι id).2 = _ from o1]
    rw [if_pos ⟨trivial, trivial, s6.cells, by rw [o2.cells, ← Nat.add_mul]; exact Nat.mul_le_mul_right _ hn, hall⟩, hmn, hnew]
  have hput := Heap.ob_put (show m.H.ob (m.ι id).1 (m.ι id).2 = some _ from o1) ⟨g, t'.z, (ch.take off ++ chx.take mn ++ ch.drop (off + mn)).flatten⟩
  obtain ⟨r1, r2, r3⟩ := set_step hS hs (o' := .arr t' (l.take off ++ xs.take mn ++ l.drop (off + mn)) uu) e2 rfl [] (by simp) [m.ι id] [] (m.H.put (m.ι id).1 (m.ι id).2 ⟨g, t'.z, (ch.take off ++ chx.take mn ++ ch.drop (off + mn)).flatten⟩)
    (fun q hq => by simp at hq; subst hq; exact ⟨id, by simp, o4⟩) (fun q hq => by simp at hq)
    (fun t j hh => by
      rw [hput, if_neg]
      rintro ⟨rfl, rfl⟩
      exact hh id o4 (by simp))
    (fun o ho => by
      rw [o1] at ho; injection ho with ho; subst ho
      exact ⟨⟨g, t'.z, (ch.take off ++ chx.take mn ++ ch.drop (off + mn)).flatten⟩, by rw [hput]; simp, rfl⟩)
    (fun kp => OT.of_flat (G := anyF m) (H := m.H) (g := g) (ch := ch.take off ++ chx.take mn ++ ch.drop (off + mn)) hf (by simp only [MS.at, reι, if_true, hput, and_self]) (by simp [reι, reF])
      (by have : (l.take off ++ xs.take mn ++ l.drop (off + mn)).length = l.length := by simp; omega
          rw [this]; exact o3) (((o2.take off).append (s6.take mn)).append (o2.drop _)))
    (fun q hq => by
      rcases hq with hq | hq
      · simp at hq; subst hq; exact ⟨⟨g, t'.z, (ch.take off ++ chx.take mn ++ ch.drop (off + mn)).flatten⟩, by rw [hput]; simp⟩
      · simp at hq)
  exact ⟨_, _, hop, _, _, _, rfl, ⟨r1, r2, r3, VT.int _⟩, h⟩
theorem copyV_sound (hT : TabOk P tab) (hS : St m σ) (hs : m.H s = []) {t u : TypeId} {e e' : TE} {t' : Ty} (ht : look tab t = some e) (he : e.ty = .list t') (hu : look tab u = some e') (he' : e'.ty = .list t') {p q : Operand} {ts : Array TypeId} (hts : ts.toList = [t, u]) {as : Array Operand} (has : as.toList = [p, q])
    (hp : VT m σ (ρ p) (ρv p)) (hq : VT m σ (ρ q) (ρv q)) {id off n : Nat} (e1 : ρ p = .own id off n)
    (h : copyV σ t' id off n (ρ q) K) : Snd P m σ s ρv (.call ⟨.builtin .copy, as, ts⟩) K := by
  obtain ⟨el, d, b, by', k1, k2, k3, k4, k5, _⟩ := tab_list hT ht he
  obtain ⟨el2, d2, b2, by2, j1, _⟩ := tab_list hT hu he'
  unfold copyV at h
  obtain ⟨xs, m1, ⟨l, e2, hn, h⟩, eH, hS1, hK1, hF1, chx, s2, s3, s6⟩ := Rd_sfr hS hs h hq
  have hs1 : m1.H s = [] := by rw [eH]; exact hs
  obtain ⟨g, ch, o1, o4, o3, o2⟩ := hS1.obj id _ e2
  replace hp := hp.keep hK1
  rw [e1] at hp
  obtain ⟨o, q1, q2⟩ := hp.own_inv (kind_arr e2)
  rw [o1] at q1
  injection q1 with q1
  subst q1
  have hall : chx.flatten.all AV.isCell = true := by
    refine List.all_eq_true.2 fun a ha => ?_
    obtain ⟨c, hc, hac⟩ := List.mem_flatten.1 ha
    obtain ⟨i, hi⟩ := List.mem_iff_getElem?.1 hc
    have hi2 : i < xs.length := by rw [s6.length]; exact (List.getElem?_eq_some_iff.1 hi).1
    obtain ⟨y, hy, hs'⟩ := s6.get (List.getElem?_eq_getElem hi2)
    rw [hi] at hy; injection hy with hy; subst hy
    exact hs'.isCell a hac
  generalize hmn : min xs.length n = mn at *
  have hm1 : mn ≤ xs.length := by omega
  have hm2 : mn ≤ n := by omega
  have hnew : ch.flatten.take (off * t'.z) ++ chx.flatten.take (mn * t'.z) ++ ch.flatten.drop (off * t'.z + mn * t'.z) = (ch.take off ++ chx.take mn ++ ch.drop (off + mn)).flatten := by
    have f1 := flatten_sub ch 0 off o2.chunk (by rw [← o2.length]; omega)
    have f2 := flatten_sub chx 0 mn s6.chunk (by rw [← s6.length]; omega)
    have f3 := flatten_sub ch (off + mn) (ch.length - (off + mn)) o2.chunk (by rw [← o2.length]; omega)
    simp only [List.drop_zero, Nat.zero_mul] at f1 f2
    rw [List.take_of_length_le (by simp)] at f3
    rw [List.take_of_length_le (l := ch.flatten.drop _) (by
      rw [List.length_drop, o2.cells, o2.length, Nat.sub_mul]; exact Nat.le_refl _)] at f3
    simp only [List.flatten_append]
    rw [f1, f2, f3, Nat.add_mul]
  have hop : opE P s ρv m1.H (.call ⟨.builtin .copy, as, ts⟩) = some (.int .i64 mn, m1.H.put (m1.ι id).1 (m1.ι id).2 ⟨g, t'.z, (ch.take off ++ chx.take mn ++ ch.drop (off + mn)).flatten⟩) := by
    simp only [opE, hts, has, List.map, builtinA, k1, j1, k2, q2, s3, s2, show m1.H.ob (m1.ι id).1 (m1.ι id).2 = _ from o1]
    rw [if_pos ⟨trivial, trivial, s6.cells, by rw [o2.cells, ← Nat.add_mul]; exact Nat.mul_le_mul_right _ hn, hall⟩, hmn, hnew]
  have hput := Heap.ob_put (show m1.H.ob (m1.ι id).1 (m1.ι id).2 = some _ from o1) ⟨g, t'.z, (ch.take off ++ chx.take mn ++ ch.drop (off + mn)).flatten⟩
  obtain ⟨r1, r2, r3⟩ := set_step hS1 hs1 (o' := .arr t' (l.take off ++ xs.take mn ++ l.drop (off + mn)) false) e2 rfl [] (by simp) [m1.ι id] [] (m1.H.put (m1.ι id).1 (m1.ι id).2 ⟨g, t'.z, (ch.take off ++ chx.take mn ++ ch.drop (off + mn)).flatten⟩)
    (fun q hq => by simp at hq; subst hq; exact ⟨id, by simp, o4⟩) (fun q hq => by simp at hq)
    (fun t j hh => by
      rw [hput, if_neg]
      rintro ⟨rfl, rfl⟩
      exact hh id o4 (by simp))
    (fun o ho => by
      rw [o1] at ho; injection ho with ho; subst ho
      exact ⟨⟨g, t'.z, (ch.take off ++ chx.take mn ++ ch.drop (off + mn)).flatten⟩, by rw [hput]; simp, rfl⟩)
    (fun kp => ⟨g, ch.take off ++ chx.take mn ++ ch.drop (off + mn), by simp only [MS.at, reι, if_true, hput, and_self], by simp [reι, reF], by
        have : (l.take off ++ xs.take mn ++ l.drop (off + mn)).length = l.length := by simp; omega
        rw [this]; exact o3, (((o2.take off).append (s6.take mn)).append (o2.drop _)).mono fun x c _ _ k => k.keep kp.fz⟩)
    (fun q hq => by
      rcases hq with hq | hq
      · simp at hq; subst hq; exact ⟨⟨g, t'.z, (ch.take off ++ chx.take mn ++ ch.drop (off + mn)).flatten⟩, by rw [hput]; simp⟩
      · simp at hq)
  exact ⟨_, _, by rw [← eH]; exact hop, _, _, _, rfl, ⟨r1, hK1.trans r2, hF1.trans r3, VT.int _⟩, h⟩
theorem sub_flatten {α : Type} : ∀ {l m : List (List α)}, l.Sublist m → l.flatten.Sublist m.flatten
  | _, _, .slnil => List.Sublist.refl _
  | _, _, .cons a h => by
    rw [List.flatten_cons]
    exact (sub_flatten h).trans (List.sublist_append_right _ _)
  | _, _, .cons_cons a h => by
    rw [List.flatten_cons, List.flatten_cons]
    exact List.Sublist.append (List.Sublist.refl _) (sub_flatten h)
theorem flat1 {α β : Type} {d : α} : ∀ (l : List (List α × β)), (∀ p ∈ l, p.1.length = 1) → (l.map (·.1)).flatten = l.map fun p => p.1.headD d
  | [], _ => rfl
  | p :: l, h => by
    obtain ⟨c, hc⟩ := List.length_eq_one_iff.1 (h p (by simp))
    rw [List.map_cons, List.flatten_cons, List.map_cons, hc, flat1 (d := d) l fun q hq => h q (by simp [hq])]
    rfl
theorem moved_sound (hT : TabOk P tab) (hS : St m σ) (hs : m.H s = []) {t u : TypeId} {e e' : TE} {t' : Ty} (ht : look tab t = some e) (he : e.ty = .list t') (hu : look tab u = some e') (he' : e'.ty = .list t') {p q : Operand} {ts : Array TypeId} (hts : ts.toList = [t, u]) {as : Array Operand} (has : as.toList = [p, q])
    (hp : VT m σ (ρ p) (ρv p)) (hq : VT m σ (ρ q) (ρv q)) {id off n : Nat} (e1 : ρ p = .own id off n) (h : shiftT σ t' id off n (ρ q) K) : Snd P m σ s ρv (.call ⟨.builtin .copy, as, ts⟩) K := by
  obtain ⟨el, d, b, by', k1, k2, k3, k4, k5, -⟩ := tab_list hT ht he
  obtain ⟨el2, d2, b2, by2, j1, -⟩ := tab_list hT hu he'
  generalize e3 : ρ q = xq at h hq
  unfold shiftT at h
  split at h
  case h_2 => exact h.elim
  rename_i t id2 off2 n2
  obtain ⟨l, e2, rfl, hoff, hn2, hl, h⟩ := h
  obtain ⟨g, parts, o1, o2, o3, o4, o5, o6⟩ := (hS.obj _ _ e2).rows
  rw [e1] at hp
  obtain ⟨o, q1, q2⟩ := hp.own_inv (kind_arr e2)
  rw [o1] at q1
  injection q1 with q1
  subst q1
  obtain ⟨o, q3, q4⟩ := hq.own_inv (kind_arr e2)
  rw [o1] at q3
  injection q3 with q3
  subst q3
  have hchunk : ∀ c ∈ parts.map (·.1), c.length = 1 := (Ow.all_sh (G := fun _ _ => True) o4 fun _ _ => trivial).chunk
  have hone : ∀ q ∈ parts, q.1.length = 1 := fun q hq => hchunk _ (List.mem_map.2 ⟨q, hq, rfl⟩)
  have hlen := o4.length
  have hk : off2 < parts.length := by omega
  generalize hpk : parts[off2]'hk = pk
  have hpm : pk ∈ parts := by rw [← hpk]; exact List.getElem_mem hk
  obtain ⟨c, hc⟩ : ∃ c, pk.1 = [c] := List.length_eq_one_iff.1 (hone pk hpm)
  let parts' : List (List AV × List (Nat × Nat)) := parts.take off2 ++ ([c], []) :: (parts.drop off2).take n
  have hsub : ∀ q ∈ parts.take off2 ++ (parts.drop off2).take n, q ∈ parts := fun q hq => by
    rcases List.mem_append.1 hq with hq | hq
    · exact List.mem_of_mem_take hq
    · exact List.mem_of_mem_drop (List.mem_of_mem_take hq)
  have hone' : ∀ q ∈ parts', q.1.length = 1 := fun q hq => by
    rcases List.mem_append.1 hq with hq | hq
    · exact hone q (hsub q (by simp [hq]))
    · rcases List.mem_cons.1 hq with rfl | hq
      · rfl
      · exact hone q (hsub q (by simp [hq]))
  have f1 := flat1 (d := AV.undef) parts hone
  have f2 := flat1 (d := AV.undef) parts' hone'
  have hpt : parts.take (off2 + 1) = parts.take off2 ++ [pk] := by rw [List.take_add_one, List.getElem?_eq_getElem hk, hpk]; rfl
  have hnew : (parts.map (·.1)).flatten.take off ++ ((((parts.map (·.1)).flatten.drop off2).take n2).take n) ++ (parts.map (·.1)).flatten.drop (off + n) = (parts'.map (·.1)).flatten := by
    have hdrop : (parts.map fun p => p.1.headD AV.undef).drop (off + n) = [] := List.drop_of_length_le (by simp; omega)
    rw [f1, f2, hdrop, List.append_nil, List.take_take, show min n n2 = n by omega, hoff, ← List.map_take, ← List.map_drop, ← List.map_take, hpt]
    simp [parts', hc]
  have hlen1 : (parts.map (·.1)).flatten.length = l.length := by rw [f1]; simp [hlen]
  have hall : ((parts.map (·.1)).flatten).all AV.isCell = true := by
    refine List.all_eq_true.2 fun a ha => ?_
    obtain ⟨cc, hcc, hac⟩ := List.mem_flatten.1 ha
    obtain ⟨q, hq, rfl⟩ := List.mem_map.1 hcc
    obtain ⟨i, hi⟩ := List.mem_iff_getElem?.1 hq
    have hi2 : i < l.length := by rw [hlen]; exact (List.getElem?_eq_some_iff.1 hi).1
    obtain ⟨y, hy, hs'⟩ := o4.get (List.getElem?_eq_getElem hi2)
    rw [hi] at hy; injection hy with hy; subst hy
    exact (hs'.sh (G := fun _ _ => True) fun _ _ => trivial).isCell a hac
  have hop : opE P s ρv m.H (.call ⟨.builtin .copy, as, ts⟩) = some (.int .i64 n, m.H.put (m.ι id2).1 (m.ι id2).2 ⟨g, 1, (parts'.map (·.1)).flatten⟩) := by
    have ho : m.H.ob (m.ι id2).1 (m.ι id2).2 = some ⟨g, 1, (parts.map (·.1)).flatten⟩ := o1
    have hz : ∀ a : Nat, a * Ty.z (.list t) = a := fun a => Nat.mul_one a
    have hrow : rowA m.H (Ty.z (.list t)) (.sl (m.ι id2).1 (m.ι id2).2 g off2 n2) = some (((parts.map (·.1)).flatten.drop off2).take n2) := by
      simp only [rowA, ho, hz]
      rw [if_neg (by omega), if_pos (by refine ⟨?_, ?_, ?_⟩ <;> first | trivial | rfl | (rw [hlen1]; omega))]
    simp only [opE, hts, has, List.map, builtinA, k1, j1, k2, q2, q4, ho, hz, hrow, lenA]
    rw [if_pos ⟨by first | trivial | rfl, by first | trivial | rfl, by rw [List.length_take, List.length_drop, hlen1]; omega, by rw [hlen1]; omega, List.all_eq_true.2 fun a ha => List.all_eq_true.1 hall a (List.mem_of_mem_drop (List.mem_of_mem_take ha))⟩]
    rw [show min n2 n = n by omega, hnew]
  have hput := Heap.ob_put (show m.H.ob (m.ι id2).1 (m.ι id2).2 = some _ from o1) ⟨g, 1, (parts'.map (·.1)).flatten⟩
  have hflsub : ∀ q ∈ (parts'.map (·.2)).flatten, q ∈ (parts.map (·.2)).flatten := fun q hq => by
    obtain ⟨O, hO, hqO⟩ := List.mem_flatten.1 hq
    obtain ⟨pp, hpp, rfl⟩ := List.mem_map.1 hO
    rcases List.mem_append.1 hpp with hpp | hpp
    · exact List.mem_flatten.2 ⟨pp.2, List.mem_map.2 ⟨pp, hsub pp (by simp [hpp]), rfl⟩, hqO⟩
    · rcases List.mem_cons.1 hpp with rfl | hpp
      · simp at hqO
      · exact List.mem_flatten.2 ⟨pp.2, List.mem_map.2 ⟨pp, hsub pp (by simp [hpp]), rfl⟩, hqO⟩
  have hpsub : (parts.take off2 ++ (parts.drop off2).take n).Sublist parts := by
    conv => rhs; rw [← List.take_append_drop off2 parts]
    exact List.Sublist.append (List.Sublist.refl _) (List.take_sublist _ _)
  have hnd : (m.ι id2 :: (parts'.map (·.2)).flatten).Nodup := by
    have e6 : (parts'.map (·.2)).flatten = ((parts.take off2 ++ (parts.drop off2).take n).map (·.2)).flatten := by simp [parts']
    rw [e6]
    refine List.Nodup.sublist (List.Sublist.cons_cons _ ?_) o5
    exact sub_flatten (hpsub.map _)
  have hll : (l.take off2 ++ [] :: (l.drop off2).take n).length = l.length := by simp; omega
  have hpl : parts'.length = parts.length := by simp [parts']; omega
  obtain ⟨r1, r2, r3⟩ := set_step hS hs (o' := .hole t (l.take off2 ++ [] :: (l.drop off2).take n) off2 .undef) e2 rfl [] (by simp) (m.ι id2 :: (parts'.map (·.2)).flatten) [] (m.H.put (m.ι id2).1 (m.ι id2).2 ⟨g, 1, (parts'.map (·.1)).flatten⟩)
    (fun q hq => by
      rcases List.mem_cons.1 hq with rfl | hq
      · exact ⟨id2, by simp, o2⟩
      · exact ⟨id2, by simp, o6 q (hflsub q hq)⟩) (fun q hq => by simp at hq)
    (fun t j hh => by
      rw [hput, if_neg]
      rintro ⟨rfl, rfl⟩
      exact hh id2 o2 (by simp))
    (fun o ho => by
      rw [o1] at ho; injection ho with ho; subst ho
      exact ⟨⟨g, 1, (parts'.map (·.1)).flatten⟩, by rw [hput]; simp, rfl⟩)
    (fun kp => by
      refine ⟨g, parts', c, ⟨by simp only [MS.at, reι, if_true, hput, and_self], by simp [reι, reF], by rw [hll]; exact o3, by rw [hpl, hll]; exact hlen.symm, fun j x pp h1 h2 h3 => ?_, ?_, ?_, fun q hq => by simp [reF, hq]⟩, .undef c⟩
      · have hrow : ∀ (i : Nat), l[i]? = some x → parts[i]? = some pp → Ow (m.H.put (m.ι id2).1 (m.ι id2).2 ⟨g, 1, (parts'.map (·.1)).flatten⟩) (.list t) x pp.1 pp.2 := fun i hi1 hi2 => by
          obtain ⟨y, hy, hk⟩ := o4.get hi1
          rw [hi2] at hy; injection hy with hy; subst hy
          refine hk.keep fun q hq => ?_
          rw [hput, if_neg]
          rintro ⟨a1, a2⟩
          refine (List.nodup_cons.1 o5).1 ?_
          have : m.ι id2 = q := Prod.ext a1.symm a2.symm
          rw [this]
          exact part_mem hi2 hq
        rcases Nat.lt_trichotomy j off2 with hj | hj | hj
        · rw [List.getElem?_append_left (by simp; omega), List.getElem?_take_of_lt hj] at h1
          rw [List.getElem?_append_left (by simp; omega), List.getElem?_take_of_lt hj] at h2
          exact hrow j h1 h2
        · exact absurd hj h3
        · have hj2 : j - off2 = (j - off2 - 1) + 1 := by omega
          rw [List.getElem?_append_right (by simp; omega), show j - (l.take off2).length = (j - off2 - 1) + 1 by simp; omega, List.getElem?_cons_succ] at h1
          rw [List.getElem?_append_right (by simp; omega), show j - (parts.take off2).length = (j - off2 - 1) + 1 by simp; omega, List.getElem?_cons_succ] at h2
          have hjn : j - off2 - 1 < n := by
            have := (List.getElem?_eq_some_iff.1 h1).1
            simp at this; omega
          rw [List.getElem?_take_of_lt hjn, List.getElem?_drop] at h1 h2
          exact hrow _ h1 h2
      · rw [List.getElem?_append_right (by simp; omega)]
        simp [show off2 - min off2 parts.length = 0 by omega]
      · simpa [reι] using hnd)
    (fun q hq => by
      rcases hq with hq | hq
      · rcases List.mem_cons.1 hq with rfl | hq
        · exact ⟨⟨g, 1, (parts'.map (·.1)).flatten⟩, by rw [hput]; simp⟩
        · obtain ⟨o, ho⟩ := hS.dom q.1 q.2 _ (o6 q (hflsub q hq))
          by_cases cc : q.1 = (m.ι id2).1 ∧ q.2 = (m.ι id2).2
          · exact ⟨⟨g, 1, (parts'.map (·.1)).flatten⟩, by rw [hput, if_pos cc]⟩
          · exact ⟨o, by rw [hput, if_neg cc]; exact ho⟩
      · simp at hq)
  exact ⟨_, _, hop, _, _, _, rfl, ⟨r1, r2, r3, VT.int _⟩, h⟩
theorem len_sound (hT : TabOk P tab) (hS : St m σ) {t : TypeId} {q : Operand} {as : Array Operand} {ts : Array TypeId} (has : as.toList = [q]) (hts : ts.toList = [t]) (hq : VT m σ (ρ q) (ρv q)) (h : builtinT tab σ .len [t] [ρ q] K) : Snd P m σ s ρv (.call ⟨.builtin .len, as, ts⟩) K := by
  unfold builtinT at h
  simp only at h
  have key : ∀ {n : Nat}, builtinA P s m.H .len [t] [ρv q] = some (.int .i64 n, m.H) → K (.i n) σ → Snd P m σ s ρv (.call ⟨.builtin .len, as, ts⟩) K := fun hb hk =>
    Snd.same hS (by simp only [opE, has, hts, List.map]; exact hb) (VT.int _) hk
  split at h
  · rename_i e b ht e1
    have h1 := tab_d hT ht
    rw [tab_str hT ht h.1] at h1
    rw [e1] at hq
    exact key (by simp only [builtinA, h1, hq.str_inv]) h.2
  · rename_i e t' l ht e1
    obtain ⟨el, d, b, by', k1, _⟩ := tab_list hT ht h.1
    rw [e1] at hq
    obtain ⟨ch, s1, s2, _⟩ := hq.list_inv.list_inv
    generalize hav : ρv q = av at *
    cases av <;> simp only [isSl, Bool.false_eq_true] at s1 <;> simp only [lenA, Option.some.injEq] at s2 <;> exact key (n := List.length l) (by simp [builtinA, k1, ← s2]) h.2
  · rename_i e t2 ht e1
    obtain ⟨hl, h⟩ := h
    rw [e1] at hq
    cases het : e.ty with
    | list t' =>
      obtain ⟨el, d, b, by', k1, _⟩ := tab_list hT ht het
      exact key (n := 0) (by simp [builtinA, k1, hq.nil_inv]) h
    | _ => rw [het] at hl; exact hl.elim
  · rename_i e id off n ht e1
    obtain ⟨hk, hl, h⟩ := h
    rw [e1] at hq
    cases het : e.ty with
    | list t' =>
      rw [het] at hk
      simp only at hk
      obtain ⟨el, d, b, by', k1, _⟩ := tab_list hT ht het
      obtain ⟨o, o1, o2⟩ := hq.own_inv hk
      exact key (by simp only [builtinA, k1, o2]) h
    | _ => rw [het] at hl; exact hl.elim
  · exact h.elim
end
end Go.Proofs.YtffiddkignmobaaDoorTv
end
