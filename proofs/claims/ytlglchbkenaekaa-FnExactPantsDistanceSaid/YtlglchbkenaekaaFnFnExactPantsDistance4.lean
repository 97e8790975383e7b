/- What functions of the program give: each contract holds for all arguments that its own sentence names. -/
import Derived.Test.YtlglchbkenaekaaFnFnExactPantsDistance3
set_option linter.unusedVariables false
set_option linter.unusedSimpArgs false
section
open Go Go.Proofs.YtlglchbkenaekaaVe Go.Proofs.YtlglchbkenaekaaTv Go.Proofs
namespace Go.Proofs.YtlglchbkenaekaaTv
set_option maxRecDepth 8000
set_option maxHeartbeats 2000000
/-- What k changes lead to. -/
inductive Stp (g : Int) (a : Tbl) : Nat → Tbl → Prop
  | zero : Stp g a 0 a
  | succ {k : Nat} {t u : Tbl} : Stp g a k t → u ∈ fromP g t → Stp g a (k + 1) u
def Rch (g : Int) (a t : Tbl) : Prop := ∃ k, Stp g a k t
def Dist (g : Int) (a : Tbl) (k : Nat) (t : Tbl) : Prop := Stp g a k t ∧ ∀ m, m < k → ¬ Stp g a m t
/-- Canonical pants of one shape. -/
def Cn (g : Int) (L : Nat) (t : Tbl) : Prop := isPants g t = true ∧ Tb L t
theorem fromP_facts {g : Int} {L : Nat} {t : Tbl} (h : Cn g L t) : (∀ u ∈ fromP g t, Cn g L u) ∧ (fromP g t).length ≤ 18 := by
  obtain ⟨n, hn, n2, n6, hg, hlen, hl9, hok⟩ := pants_facts h.1
  have hL := h.2.len
  obtain ⟨h1, h2⟩ := fromE_facts h.1 (P := Cn g L) (fun e w h1 h2 h3 => by
    have := nbr_facts h.1 h1 h3 h2
    rw [hL] at this
    exact this) t.length (Nat.le_refl _)
  exact ⟨h1, Nat.le_trans (show (fromP g t).length ≤ 2 * t.length from h2) (by omega)⟩
theorem Stp.cn {g : Int} {L : Nat} {a : Tbl} (ha : Cn g L a) {k : Nat} {t : Tbl} (h : Stp g a k t) : Cn g L t := by
  induction h with
  | zero => exact ha
  | succ _ hu ih => exact (fromP_facts ih).1 _ hu
theorem Stp.pred {g : Int} {a : Tbl} {k : Nat} {u : Tbl} (h : Stp g a (k + 1) u) : ∃ t, Stp g a k t ∧ u ∈ fromP g t := by
  cases h with
  | succ h1 h2 => exact ⟨_, h1, h2⟩
theorem dist_ex {g : Int} {a t : Tbl} (h : Rch g a t) : ∃ k, Dist g a k t := by
  obtain ⟨k, hk⟩ := h
  induction k using Nat.strongRecOn with
  | _ k ih =>
    by_cases c : ∃ m, m < k ∧ Stp g a m t
    · obtain ⟨m, hm, hs⟩ := c
      exact ih m hm hs
    · exact ⟨k, hk, fun m hm hs => c ⟨m, hm, hs⟩⟩
theorem Dist.uniq {g : Int} {a t : Tbl} {k m : Nat} (h : Dist g a k t) (h' : Dist g a m t) : k = m := by
  rcases Nat.lt_trichotomy k m with c | c | c
  · exact absurd h.1 (h'.2 k c)
  · exact c
  · exact absurd h'.1 (h.2 m c)
theorem dist_pred {g : Int} {a u : Tbl} {k : Nat} (h : Dist g a (k + 1) u) : ∃ t, Dist g a k t ∧ u ∈ fromP g t := by
  obtain ⟨t, h1, h2⟩ := h.1.pred
  exact ⟨t, ⟨h1, fun m hm hs => h.2 (m + 1) (by omega) (.succ hs h2)⟩, h2⟩
/-- Everything that is reached, as one ascending list. -/
theorem reach_asc {g : Int} {L : Nat} {a : Tbl} (ha : Cn g L a) : ∃ S, Asc S ∧ ∀ t, t ∈ S ↔ Rch g a t := by
  have key : ∀ m : Nat, (∃ S : List Tbl, S.Nodup ∧ (∀ t ∈ S, Rch g a t) ∧ S.length = m) ∨ ∃ S : List Tbl, ∀ t, t ∈ S ↔ Rch g a t := fun m => by
    induction m with
    | zero => exact .inl ⟨[], List.nodup_nil, by simp, rfl⟩
    | succ m ih =>
      rcases ih with ⟨S, h1, h2, h3⟩ | h
      · by_cases c : ∃ t, Rch g a t ∧ t ∉ S
        · obtain ⟨t, ht, hn⟩ := c
          exact .inl ⟨t :: S, List.nodup_cons.2 ⟨hn, h1⟩, fun u hu => by
            rcases List.mem_cons.1 hu with rfl | hu
            · exact ht
            · exact h2 u hu, by simp [h3]⟩
        · exact .inr ⟨S, fun t => ⟨h2 t, fun ht => Classical.byContradiction fun hn => c ⟨t, ht, hn⟩⟩⟩
      · exact .inr h
  obtain ⟨S, hS⟩ : ∃ S : List Tbl, ∀ t, t ∈ S ↔ Rch g a t := by
    rcases key (bigB + 1) with ⟨S, h1, h2, h3⟩ | h
    · have := pants_bound (g := g) h1 fun s hs => by
        obtain ⟨k, hk⟩ := h2 s hs
        exact (hk.cn ha).1
      omega
    · exact h
  have hfold : ∀ (l acc : List Tbl), Asc acc → (∀ s ∈ acc, Tb L s) → (∀ s ∈ l, Tb L s) → Asc (l.foldl addT acc) ∧ ∀ t, t ∈ l.foldl addT acc ↔ t ∈ acc ∨ t ∈ l := fun l => by
    induction l with
    | nil => intro acc h1 h2 h3; exact ⟨h1, by simp⟩
    | cons x l ih =>
      intro acc h1 h2 h3
      obtain ⟨_, f2, f3⟩ := add_facts (h3 x (by simp)) h1 h2
      obtain ⟨i1, i2⟩ := ih (addT acc x) f2 (fun s hs => by
        rcases (f3 s).1 hs with hs | rfl
        · exact h2 s hs
        · exact h3 _ (by simp)) fun s hs => h3 s (by simp [hs])
      exact ⟨i1, fun t => by rw [List.foldl_cons, i2, f3, List.mem_cons, or_assoc]⟩
  obtain ⟨f1, f2⟩ := hfold S [] (by simp [Asc]) (by simp) fun s hs => by
    obtain ⟨k, hk⟩ := (hS s).1 hs
    exact (hk.cn ha).2
  exact ⟨_, f1, fun t => by rw [f2, ← hS]; simp⟩
/-! The search of the reference. -/
def stepN (d : Int) (p : List Tbl × List Int) (x : Tbl) : List Tbl × List Int := if x ∈ p.1 then p else (p.1 ++ [x], p.2 ++ [d + 1])
def stepJ (g : Int) (k : Nat) (p : List Tbl × List Int) (j : Nat) : List Tbl × List Int := ((fromP g (rdS p.1 k)).take j).foldl (stepN (rd p.2 k)) p
def reachF (g : Int) : Nat → Nat → List Tbl × List Int → List Tbl × List Int
  | 0, _, p => p
  | f + 1, k, p => if k < p.1.length then reachF g f (k + 1) (stepJ g k p (fromP g (rdS p.1 k)).length) else p
structure Bfs (g : Int) (L : Nat) (a : Tbl) (k : Nat) (p : List Tbl × List Int) : Prop where
  nd : p.1.Nodup
  cn : ∀ t ∈ p.1, Cn g L t
  len : p.2.length = p.1.length
  kl : k ≤ p.1.length
  one : 1 ≤ p.1.length
  hd : a ∈ p.1
  dist : ∀ i : Nat, i < p.1.length → 0 ≤ rd p.2 i ∧ rd p.2 i ≤ i ∧ Dist g a (rd p.2 i).toNat (rdS p.1 i)
  mono : ∀ i j : Nat, i ≤ j → j < p.1.length → rd p.2 i ≤ rd p.2 j
  last : ∀ i : Nat, i < p.1.length → k < p.1.length → rd p.2 i ≤ rd p.2 k + 1
  closed : ∀ i : Nat, i < k → ∀ u ∈ fromP g (rdS p.1 i), u ∈ p.1
theorem rd_app {l m : List Int} {i : Nat} (h : i < l.length) : rd (l ++ m) i = rd l i := by simp [rd, List.getElem?_append_left h]
theorem rdS_app {l m : List Tbl} {i : Nat} (h : i < l.length) : rdS (l ++ m) i = rdS l i := by simp [rdS, List.getElem?_append_left h]
theorem rd_end {l : List Int} {x : Int} : rd (l ++ [x]) (l.length : Nat) = x := by simp [rd]
theorem rdS_end {l : List Tbl} {x : Tbl} : rdS (l ++ [x]) (l.length : Nat) = x := by simp [rdS]
theorem mem_rdS {S : List Tbl} {t : Tbl} (h : t ∈ S) : ∃ i : Nat, i < S.length ∧ rdS S i = t := by
  obtain ⟨j, hj⟩ := List.mem_iff_getElem?.1 h
  have h1 := (List.getElem?_eq_some_iff.1 hj).1
  exact ⟨j, h1, by simp [rdS, hj]⟩
/-- Nothing as near as what is worked on is missing. -/
theorem Bfs.near {g : Int} {L : Nat} {a : Tbl} {k : Nat} {p : List Tbl × List Int} (h : Bfs g L a k p) (hk : k < p.1.length) : ∀ (m : Nat) (t : Tbl), (m : Int) ≤ rd p.2 k → Stp g a m t → t ∈ p.1
  | 0, t, _, hs => by cases hs; exact h.hd
  | m + 1, t, hm, hs => by
    obtain ⟨q, h1, h2⟩ := hs.pred
    have hq := h.near hk m q (by omega) h1
    obtain ⟨i, hi, rfl⟩ := mem_rdS hq
    obtain ⟨d1, d2, d3⟩ := h.dist i hi
    have hle : (rd p.2 i).toNat ≤ m := by
      rcases Nat.lt_or_ge m (rd p.2 i).toNat with c | c
      · exact absurd h1 (d3.2 m c)
      · exact c
    have hik : i < k := by
      rcases Nat.lt_or_ge i k with c | c
      · exact c
      · have := h.mono k i c hi; omega
    exact h.closed i hik t h2
theorem Bfs.step {g : Int} {L : Nat} {a : Tbl} {k : Nat} {p : List Tbl × List Int} (h : Bfs g L a k p) (hk : k < p.1.length) {x : Tbl} (hx : x ∈ fromP g (rdS p.1 k)) : Bfs g L a k (stepN (rd p.2 k) p x) ∧ rdS (stepN (rd p.2 k) p x).1 k = rdS p.1 k ∧ rd (stepN (rd p.2 k) p x).2 k = rd p.2 k ∧ k < (stepN (rd p.2 k) p x).1.length ∧ (∀ t, t ∈ (stepN (rd p.2 k) p x).1 ↔ t ∈ p.1 ∨ t = x) := by
  unfold stepN
  split
  · rename_i hm
    exact ⟨h, rfl, rfl, hk, fun t => ⟨.inl, fun c => c.elim id fun e => by rw [e]; exact hm⟩⟩
  · rename_i hm
    have hlen := h.len
    obtain ⟨d1, d2, d3⟩ := h.dist k hk
    have hcn := h.cn _ (rdS_mem hk)
    have hS1 : Stp g a ((rd p.2 k).toNat + 1) x := .succ d3.1 hx
    have hD : Dist g a (rd p.2 k + 1).toNat x := by
      rw [show (rd p.2 k + 1).toNat = (rd p.2 k).toNat + 1 by omega]
      exact ⟨hS1, fun m hm2 hs => hm (h.near hk m x (by omega) hs)⟩
    refine ⟨⟨?_, ?_, ?_, ?_, ?_, ?_, fun i hi => ?_, fun i j hij hj => ?_, fun i hi _ => ?_, fun i hi u hu => ?_⟩, rdS_app hk, rd_app (by omega), by simp; omega, fun t => by simp⟩
    · simp only
      exact List.nodup_append.2 ⟨h.nd, by simp, fun t ht u hu => by
        simp at hu; subst hu
        exact fun e => hm (e ▸ ht)⟩
    · intro t ht
      simp only [List.mem_append, List.mem_singleton] at ht
      rcases ht with ht | rfl
      · exact h.cn t ht
      · exact (fromP_facts hcn).1 _ hx
    · simp [hlen]
    · have := h.kl; simp; omega
    · simp
    · simp [h.hd]
    · simp only [List.length_append, List.length_cons, List.length_nil] at hi
      by_cases c : i < p.1.length
      · simp only
        rw [rd_app (by omega), rdS_app c]
        exact h.dist i c
      · obtain rfl : i = p.1.length := by omega
        simp only
        rw [rdS_end, ← hlen, rd_end]
        exact ⟨by omega, by omega, hD⟩
    · simp only [List.length_append, List.length_cons, List.length_nil] at hj ⊢
      by_cases c : j < p.1.length
      · rw [rd_app (by omega), rd_app (by omega)]
        exact h.mono i j hij c
      · obtain rfl : j = p.1.length := by omega
        have e : rd (p.2 ++ [rd p.2 k + 1]) (p.1.length : Nat) = rd p.2 k + 1 := by rw [← hlen, rd_end]
        rw [e]
        by_cases c2 : i < p.1.length
        · rw [rd_app (by omega)]
          exact h.last i c2 hk
        · obtain rfl : i = p.1.length := by omega
          rw [e]; omega
    · simp only [List.length_append, List.length_cons, List.length_nil] at hi ⊢
      have ek : rd (p.2 ++ [rd p.2 k + 1]) k = rd p.2 k := rd_app (by omega)
      rw [ek]
      by_cases c : i < p.1.length
      · rw [rd_app (by omega)]
        exact h.last i c hk
      · obtain rfl : i = p.1.length := by omega
        have e : rd (p.2 ++ [rd p.2 k + 1]) (p.1.length : Nat) = rd p.2 k + 1 := by rw [← hlen, rd_end]
        rw [e]; omega
    · simp only at hu ⊢
      rw [rdS_app (by have := h.kl; omega)] at hu
      exact List.mem_append_left _ (h.closed i hi u hu)
theorem stepJ_succ {g : Int} {k : Nat} {p : List Tbl × List Int} {j : Nat} (h : j < (fromP g (rdS p.1 k)).length) : stepJ g k p (j + 1) = stepN (rd p.2 k) (stepJ g k p j) (rdS (fromP g (rdS p.1 k)) j) := by
  unfold stepJ
  rw [take_succS h, List.foldl_append]
  rfl
theorem Bfs.steps {g : Int} {L : Nat} {a : Tbl} {k : Nat} {p : List Tbl × List Int} (h : Bfs g L a k p) (hk : k < p.1.length) : ∀ j, j ≤ (fromP g (rdS p.1 k)).length → Bfs g L a k (stepJ g k p j) ∧ rdS (stepJ g k p j).1 k = rdS p.1 k ∧ rd (stepJ g k p j).2 k = rd p.2 k ∧ k < (stepJ g k p j).1.length ∧ ∀ i : Nat, i < j → rdS (fromP g (rdS p.1 k)) i ∈ (stepJ g k p j).1
  | 0, _ => ⟨h, rfl, rfl, hk, fun i hi => by omega⟩
  | j + 1, hj => by
    obtain ⟨h1, h2, h3, h4, h5⟩ := h.steps hk j (by omega)
    rw [stepJ_succ (by omega)]
    have hx : rdS (fromP g (rdS p.1 k)) j ∈ fromP g (rdS (stepJ g k p j).1 k) := by rw [h2]; exact rdS_mem (by omega)
    obtain ⟨s1, s2, s3, s4, s5⟩ := h1.step h4 hx
    rw [h3] at s1 s2 s3 s4 s5
    refine ⟨s1, s2.trans h2, s3, s4, fun i hi => (s5 _).2 ?_⟩
    by_cases c : i = j
    · exact .inr (by rw [c])
    · exact .inl (h5 i (by omega))
theorem Bfs.next {g : Int} {L : Nat} {a : Tbl} {k : Nat} {p : List Tbl × List Int} (h : Bfs g L a k p) (hk : k < p.1.length) : Bfs g L a (k + 1) (stepJ g k p (fromP g (rdS p.1 k)).length) := by
  obtain ⟨h1, h2, h3, h4, h5⟩ := h.steps hk _ (Nat.le_refl _)
  refine ⟨h1.nd, h1.cn, h1.len, h4, h1.one, h1.hd, h1.dist, h1.mono, fun i hi hk1 => ?_, fun i hi u hu => ?_⟩
  · have := h1.last i hi h4
    have := h1.mono k (k + 1) (by omega) hk1
    omega
  · by_cases c : i = k
    · subst c
      rw [h2] at hu
      obtain ⟨j, hj, rfl⟩ := mem_rdS hu
      exact h5 j hj
    · exact h1.closed i (by omega) u hu
theorem Bfs.size {g : Int} {L : Nat} {a : Tbl} {k : Nat} {p : List Tbl × List Int} (h : Bfs g L a k p) : p.1.length ≤ bigB := pants_bound h.nd fun s hs => (h.cn s hs).1
theorem Bfs.init {g : Int} {L : Nat} {a : Tbl} (ha : Cn g L a) : Bfs g L a 0 ([a], [0]) where
  nd := by simp
  cn := fun t ht => by simp at ht; rw [ht]; exact ha
  len := rfl
  kl := by simp
  one := by simp
  hd := by simp
  dist := fun i hi => by
    obtain rfl : i = 0 := by simpa using hi
    exact ⟨Int.le_refl _, Int.le_refl _, .zero, fun m hm => by cases hm⟩
  mono := fun i j hij hj => by
    obtain rfl : j = 0 := by simpa using hj
    obtain rfl : i = 0 := by omega
    exact Int.le_refl _
  last := fun i hi _ => by
    obtain rfl : i = 0 := by simpa using hi
    show (0 : Int) ≤ 0 + 1
    omega
  closed := fun i hi => by omega
theorem reachF_bfs {g : Int} {L : Nat} {a : Tbl} : ∀ (f k : Nat) (p : List Tbl × List Int), Bfs g L a k p → bigB ≤ f + k → Bfs g L a (reachF g f k p).1.length (reachF g f k p)
  | 0, k, p, h, hf => by
    have := h.size; have := h.kl
    obtain rfl : k = p.1.length := by omega
    exact h
  | f + 1, k, p, h, hf => by
    unfold reachF
    split
    · rename_i hk
      exact reachF_bfs f (k + 1) _ (h.next hk) (by omega)
    · obtain rfl : k = p.1.length := by have := h.kl; omega
      exact h
/-- All that is reached, with distances. -/
def reachA (g : Int) (a : Tbl) : List Tbl × List Int := reachF g bigB 0 ([a], [0])
theorem reachA_facts {g : Int} {L : Nat} {a : Tbl} (ha : Cn g L a) : Bfs g L a (reachA g a).1.length (reachA g a) ∧ ∀ t, t ∈ (reachA g a).1 ↔ Rch g a t := by
  have h := reachF_bfs bigB 0 _ (Bfs.init ha) (by omega)
  refine ⟨h, fun t => ⟨fun ht => ?_, fun ⟨m, hs⟩ => ?_⟩⟩
  · obtain ⟨i, hi, rfl⟩ := mem_rdS ht
    exact ⟨_, (h.dist i hi).2.2.1⟩
  · induction hs with
    | zero => exact h.hd
    | succ hs1 hu ih =>
      obtain ⟨i, hi, e⟩ := mem_rdS (ih ⟨_, hs1⟩)
      rw [← e] at hu
      exact h.closed i hi _ hu
end Go.Proofs.YtlglchbkenaekaaTv
end
section
open Go Go.Proofs.YtlglchbkenaekaaVe Go.Proofs.YtlglchbkenaekaaTv Go.Proofs
namespace Go.Proofs.YtlglchbkenaekaaTv
set_option maxRecDepth 8000
set_option maxHeartbeats 2000000
theorem leastP_cn {g : Int} {ll : Tbl} (h : isPants g ll = true) : Cn g ll.length (leastP g ll) := by
  have hp := least_pants h
  obtain ⟨f1, f2⟩ := leastP_facts h
  obtain ⟨n, hn, n2, n6, hg, hlen, hl9, hok⟩ := pants_facts hp
  refine ⟨hp, f1, f2, fun j hj => ?_⟩
  obtain ⟨r1, r2, r3, r4⟩ := rowOk_facts (hok j hj)
  exact ⟨r1, ⟨r2, by omega⟩, ⟨by omega, by omega⟩⟩
theorem take_mem_succ {S : List Tbl} {x : Tbl} {i : Nat} (h : i < S.length) : decide (x ∈ S.take (i + 1)) = (decide (x ∈ S.take i) || decide (rdS S i = x)) := by
  rw [take_succS h]
  by_cases c : x ∈ S.take i
  · simp [c]
  · simp [c, eq_comm]
theorem l19Reach {g : Int} {ll : Tbl} (h : isPants g ll = true) : ConT Try.prog 73 [.i g, .ill ll] (.tup [.own 0 0 (reachA g (leastP g ll)).1.length, .own 1 0 (reachA g (leastP g ll)).2.length]) [.arr (.list (.list (.int .i64))) (reachA g (leastP g ll)).1 false, .arr (.int .i64) (reachA g (leastP g ll)).2 true] := by
  refine conT_of hmix hTab Try.func73 rfl rfl (by kernel_rfl) (by show 2 ≤ Try.f73.ntmps; decide) ?_
  obtain ⟨n, hn, n2, n6, hg, hlen, hl9, hok⟩ := pants_facts h
  have hle := l19Least g n hn n6 ll hl9 (fun j hj => ends_of hok j hj)
  have hnb : leastF ll (allP n) (allP n).length = leastP g ll := by rw [leastP, show (2 * g - 2).toNat = n by omega]
  rw [hnb] at hle
  have hcn := leastP_cn h
  have hal := hcn.2.len
  have hB := bigB_le
  generalize leastP g ll = a at *
  rw [← hal] at hle hcn
  have hA : reachA g a = reachF g bigB 0 ([a], [0]) := rfl
  refine stp ?_; try with_reducible exact True.intro
  refine useT (hle) ?_; try with_reducible exact True.intro
  refine Or.inr ?_; refine stp ?_; try with_reducible exact True.intro
  refine ⟨Nat × List Tbl × List Int, fun s => Bfs g (List.length a) a s.1 s.2 ∧ reachF g (bigB - s.1) s.1 s.2 = reachA g a, fun s => bigB - s.1, fun s => [(0, .i g), (6, .own 0 0 s.2.1.length), (7, .own 1 0 s.2.2.length), (8, .i s.1)], fun s => [.arr (.list (.list (.int .i64))) s.2.1 false, .arr (.int .i64) s.2.2 true], ⟨(0, [a], [0]), (fitK [] [1, 2]), Bfs.init hcn, by rw [hA]; rfl⟩, fun ⟨k, p⟩ ⟨hb, hr⟩ => ?_⟩
  dsimp only at hb hr ⊢
  have hsz := hb.size
  have hpl := hb.len
  have hkl := hb.kl
  refine stp ?_; try with_reducible exact True.intro
  refine Br.mk (fun c1 => ?_) (fun c1 => ?_) <;> simp [-Int.ofNat_toNat] at c1
  · have hck := hb.cn _ (rdS_mem c1)
    have hf := l19From g (rdS p.1 k) hck.1
    obtain ⟨hfc, hf18⟩ := fromP_facts hck
    obtain ⟨e, he⟩ : ∃ e, bigB - k = e + 1 := ⟨bigB - k - 1, by omega⟩
    rw [he, reachF, if_pos c1] at hr
    have hst := fun j hj => hb.steps c1 (j := j) hj
    have hnx := hb.next c1
    have hss := fun j (hj : j < (fromP g (rdS p.1 k)).length) => stepJ_succ (g := g) (k := k) (p := p) (j := j) hj
    generalize fromP g (rdS p.1 k) = near at *
    refine stp ?_; try with_reducible exact True.intro
    refine useT (hf) ?_; try with_reducible exact True.intro
    refine ⟨Nat, fun j => j ≤ near.length, fun j => near.length - j, fun j => [(0, .i g), (6, .own 0 0 (stepJ g k p j).1.length), (7, .own 1 0 (stepJ g k p j).2.length), (8, .i k), (9, .own 2 0 near.length), (10, .i j)], fun j => [.arr (.list (.list (.int .i64))) (stepJ g k p j).1 false, .arr (.int .i64) (stepJ g k p j).2 true, .arr (.list (.list (.int .i64))) near false], ⟨0, (fitK [] [0, 1, 2]), Nat.zero_le _⟩, fun j hj => ?_⟩
    dsimp only at hj ⊢
    obtain ⟨hb2, hk1, hk2, hk3, _⟩ := hst j hj
    have hsu := hss j
    have hsz2 := hb2.size
    have hql := hb2.len
    generalize hq : stepJ g k p j = q at *
    refine stp ?_; try with_reducible exact True.intro
    refine Br.mk (fun c2 => ?_) (fun c2 => ?_) <;> simp [-Int.ofNat_toNat] at c2
    · replace hsu := hsu c2
      have hxc := hfc _ (rdS_mem c2)
      have hdk := hb2.dist k hk3
      refine ⟨Nat × Bool, fun s => s.1 ≤ q.1.length ∧ s.2 = decide (rdS near j ∈ q.1.take s.1), fun s => q.1.length - s.1, fun s => [(0, .i g), (6, .own 0 0 q.1.length), (7, .own 1 0 q.2.length), (8, .i k), (9, .own 2 0 near.length), (10, .i j), (11, .b s.2), (12, .i s.1)], fun s => [.arr (.list (.list (.int .i64))) q.1 false, .arr (.int .i64) q.2 true, .arr (.list (.list (.int .i64))) near false], ⟨(0, false), (fitK [] [0, 1, 2]), by simp⟩, fun ⟨i, kn⟩ ⟨hi, hkn⟩ => ?_⟩
      dsimp only at hi hkn ⊢
      refine stp ?_; try with_reducible exact True.intro
      refine Br.mk (fun c3 => ?_) (fun c3 => ?_) <;> simp [-Int.ofNat_toNat] at c3
      · have htk := take_mem_succ (x := rdS near j) c3
        have hci := hb2.cn _ (rdS_mem c3)
        have hsm := l11Same (rdS q.1 i) (rdS near j) (by rw [hci.2.len]; omega) fun r hr => by rw [hci.2.prs r hr]; omega
        refine stp ?_; try with_reducible exact True.intro
        cases kn with
        | true =>
          refine brT rfl ?_
          refine stp ?_; try with_reducible exact True.intro
          exact ⟨(i + 1, true), (fitK [] [0, 1, 2]), ⟨c3, by rw [htk, ← hkn]; rfl⟩, by first | ((try dsimp only); omega) | (simp; omega)⟩
        | false =>
          refine brF rfl ?_
          refine stp ?_; try with_reducible exact True.intro
          refine useT (hsm.toT) ?_; try with_reducible exact True.intro
          exact ⟨(i + 1, decide (rdS q.1 i = rdS near j)), (fitK [] [0, 1, 2]), ⟨c3, by rw [htk, ← hkn]; rfl⟩, by first | ((try dsimp only); omega) | (simp; omega)⟩
      · obtain rfl : i = q.1.length := by omega
        rw [List.take_length] at hkn
        refine stp ?_; try with_reducible exact True.intro
        cases kn with
        | true =>
          have hsq : stepJ g k p (j + 1) = q := by
            rw [hsu, stepN, if_pos (of_decide_eq_true hkn.symm)]
          refine brF rfl ?_
          refine stp ?_; try with_reducible exact True.intro
          refine ⟨j + 1, ⟨.frz [], [0, 1, 2], ⟨rfl, ?_, ?_, rfl, rfl, rfl, trivial⟩, ⟨?_, ?_, rfl, trivial⟩, by decide, rfl, rfl, rfl⟩, c2, by first | ((try dsimp only); omega) | (simp; omega)⟩ <;> rw [hsq] <;> rfl
        | false =>
          have hsq : stepJ g k p (j + 1) = (q.1 ++ [rdS near j], q.2 ++ [rd q.2 k + 1]) := by
            rw [hsu, stepN, if_neg (of_decide_eq_false hkn.symm), hk2]
          refine brT rfl ?_
          refine stp ?_; try with_reducible exact True.intro
          refine Or.inr ?_; refine stp ?_; try with_reducible exact True.intro
          refine Or.inr ?_; refine stp ?_; try with_reducible exact True.intro
          refine ⟨j + 1, ⟨.frz [], [4, 6, 2], ⟨rfl, ?_, ?_, rfl, rfl, rfl, trivial⟩, ⟨?_, ?_, rfl, trivial⟩, by decide, rfl, rfl, rfl⟩, c2, by first | ((try dsimp only); omega) | (simp; omega)⟩ <;> rw [hsq]
          · show V.own 4 0 _ = V.own 4 0 _
            congr 1
            simp
          · show V.own 6 0 _ = V.own 6 0 _
            congr 1
            simp
          · refine congrArg (fun x => some (Obj.arr (.list (.list (.int .i64))) x false)) ?_
            simp
            rfl
          · refine congrArg (fun x => some (Obj.arr (.int .i64) x true)) ?_
            simp
    · obtain rfl : j = near.length := by omega
      refine stp ?_; try with_reducible exact True.intro
      refine ⟨(k + 1, q), (fitK [] [0, 1]), ⟨?_, ?_⟩, by first | ((try dsimp only); omega) | (simp; omega)⟩
      · rw [← hq]; exact hnx
      · rw [← hr, hq, show bigB - (k + 1) = e by omega]
  · obtain rfl : k = p.1.length := by omega
    have : reachF g (bigB - p.1.length) p.1.length p = p := by
      cases bigB - p.1.length with
      | zero => rfl
      | succ f => rw [reachF, if_neg (Nat.lt_irrefl _)]
    rw [this] at hr
    rw [← hr]
    refine stp ?_; try with_reducible exact True.intro
    exact (fitK [] [0, 1])
theorem l19AddV (L : Nat) (hL : L ≤ 9) (S : List Tbl) (x : Tbl) (hS : ∀ s ∈ S, Tb L s) (hx : Tb L x) (hn : (S.length : Int) < 274877906944) : ConI Try.prog 75 [.own 0 0 S.length, .ill x] [.arr (.list (.list (.int .i64))) S false]
    (if hasT S x = true then .own 0 0 S.length else .own 1 0 (S.length + 1)) (if hasT S x = true then [.arr (.list (.list (.int .i64))) S false] else [.gone, .arr (.list (.list (.int .i64))) (addT S x) false]) := by
  have hxl := hx.len
  subst hxl
  refine conI_of hmix hTab Try.func75 rfl rfl (by kernel_rfl) (by show 2 ≤ Try.f75.ntmps; decide) ?_
  refine stp ?_; try with_reducible exact True.intro
  refine ⟨Nat, fun i => i ≤ S.length ∧ posT S x = i + posT (S.drop i) x, fun i => S.length - i, fun i => [(0, .own 0 0 S.length), (1, .ill x), (5, .i i)], fun i => [.arr (.list (.list (.int .i64))) S false], ⟨0, (fitK [] [0]), by simp⟩, fun i ⟨hi, hp⟩ => ?_⟩
  dsimp only at hi hp ⊢
  refine stp ?_; try with_reducible exact True.intro
  refine Br.mk (fun h1 => ?_) (fun h1 => ?_) <;> simp [-Int.ofNat_toNat] at h1
  · have hm := hS _ (rdS_mem h1)
    have hl := l19Less (rdS S i) x (by rw [hm.len]; exact hL) (by rw [hm.len, hx.len]) hm.small hx.small
    rw [drop_consS h1, posT] at hp
    have hsm := l11Same (rdS S i) x (by rw [hm.len]; omega) fun r hr => by rw [hm.prs r hr]; omega
    have heq := hm.eq_iff hx
    refine stp ?_; try with_reducible exact True.intro
    refine useT (hl.toT) ?_; try with_reducible exact True.intro
    refine Br.mk (fun c1 => ?_) (fun c1 => ?_) <;> simp [-Int.ofNat_toNat] at c1
    · rw [if_pos c1] at hp
      refine stp ?_; try with_reducible exact True.intro
      exact ⟨i + 1, (fitK [] [0]), ⟨h1, by omega⟩, by first | ((try dsimp only); omega) | (simp; omega)⟩
    · rw [if_neg (by omega)] at hp
      refine stp ?_; try with_reducible exact True.intro
      refine brT (decide_eq_true (by omega)) ?_
      refine stp ?_; try with_reducible exact True.intro
      refine useT (hsm.toT) ?_; try with_reducible exact True.intro
      refine Br.mk (fun c2 => ?_) (fun c2 => ?_) <;> simp [-Int.ofNat_toNat] at c2
      · have hh : hasT S x = true := by
          simp only [hasT, Bool.and_eq_true, decide_eq_true_eq]
          rw [hp, Nat.add_zero]
          exact ⟨h1, heq.2 c2⟩
        simp only [hh, if_true]
        refine stp ?_; try with_reducible exact True.intro
        exact (fitK [] [0])
      · have hh : hasT S x = false := by
          simp only [hasT, Bool.and_eq_false_iff, decide_eq_false_iff_not]
          rw [hp, Nat.add_zero]
          exact .inr fun c => c2 (heq.1 c)
        simp only [hh, Bool.false_eq_true, if_false]
        have had : addT S x = S.take i ++ x :: S.drop i := by
          rw [addT, hh, if_neg (by simp), hp, Nat.add_zero]
        rw [had]
        refine stp ?_; try with_reducible exact True.intro
        refine Or.inr ?_; refine stp ?_; try with_reducible exact True.intro
        refine Or.inr ?_; refine stp ?_; try with_reducible exact True.intro
        refine Or.inr ?_; refine stp ?_; try with_reducible exact True.intro
        refine Or.inr ?_; refine stp ?_; try with_reducible exact True.intro
        refine Or.inr ?_; refine stp ?_; try with_reducible exact True.intro
        refine ⟨.frz [], [0, 5], ⟨?_, trivial⟩, ⟨rfl, ?_, trivial⟩, by decide, rfl, rfl, rfl⟩
        · show V.own 5 0 _ = V.own 5 0 _
          congr 1
          simp
          omega
        · refine congrArg (fun x => some (Obj.arr (.list (.list (.int .i64))) x false)) ?_
          simp
          rw [List.take_of_length_le (l := List.take i S ++ [x]) (by simp; omega), List.take_take, Nat.min_self, List.take_of_length_le (l := List.drop i S) (by simp)]
          simp
  · obtain rfl : i = S.length := by omega
    rw [List.drop_of_length_le (Nat.le_refl _), posT, Nat.add_zero] at hp
    have hh : hasT S x = false := by
      simp only [hasT, hp, Nat.lt_irrefl, decide_false, Bool.false_and]
    have had : addT S x = S.take S.length ++ x :: S.drop S.length := by
      rw [addT, hh, if_neg (by simp), hp]
    rw [had]
    simp only [hh, Bool.false_eq_true, if_false]
    refine stp ?_; try with_reducible exact True.intro
    refine brF (decide_eq_false (by omega)) ?_
    refine stp ?_; try with_reducible exact True.intro
    refine Or.inr ?_; refine stp ?_; try with_reducible exact True.intro
    refine Or.inr ?_; refine stp ?_; try with_reducible exact True.intro
    refine Or.inr ?_; refine stp ?_; try with_reducible exact True.intro
    refine Or.inr ?_; refine stp ?_; try with_reducible exact True.intro
    refine Or.inr ?_; refine stp ?_; try with_reducible exact True.intro
    refine ⟨.frz [], [0, 5], ⟨?_, trivial⟩, ⟨rfl, ?_, trivial⟩, by decide, rfl, rfl, rfl⟩
    · show V.own 5 0 _ = V.own 5 0 _
      congr 1
      simp
    · refine congrArg (fun x => some (Obj.arr (.list (.list (.int .i64))) x false)) ?_
      simp
      rw [List.take_of_length_le (by simp)]
def firstL : Nat → Tbl
  | 0 => [[0, 0]]
  | v + 1 => firstL v ++ [[(v : Int), v + 1]] ++ if v % 2 = 1 then [[(v : Int), v + 1]] else []
def firstP (g : Int) : Tbl := firstL (2 * g - 3).toNat ++ [[2 * g - 3, 2 * g - 3]]
theorem firstL_len : ∀ v, (firstL v).length ≤ 2 * v + 1
  | 0 => Nat.le_refl _
  | v + 1 => by
    have := firstL_len v
    unfold firstL
    split <;> simp <;> omega
theorem l19First (g : Int) (hg : 2 ≤ g ∧ g ≤ 4) : ConT Try.prog 74 [.i g] (.own 0 0 (firstP g).length) [.arr (.list (.int .i64)) (firstP g) true] := by
  refine conT_of hmix hTab Try.func74 rfl rfl (by kernel_rfl) (by show 1 ≤ Try.f74.ntmps; decide) ?_
  refine stp ?_; try with_reducible exact True.intro
  refine Or.inl ⟨_, rfl, rfl, by first | rfl | (simp; done) | (simp; omega), ?_⟩; refine stp ?_; try with_reducible exact True.intro
  refine ⟨Nat, fun v => (v : Int) ≤ 2 * g - 3, fun v => (2 * g).toNat - v, fun v => [(0, .i g), (3, .own 0 0 (firstL v).length), (4, .i v)], fun v => [.arr (.list (.int .i64)) (firstL v) true], ⟨0, (fitK [] [1]), by simp; omega⟩, fun v hv => ?_⟩
  dsimp only at hv ⊢
  have hl := firstL_len v
  refine stp ?_; try with_reducible exact True.intro
  refine Br.mk (fun c1 => ?_) (fun c1 => ?_) <;> simp [-Int.ofNat_toNat] at c1
  · refine stp ?_; try with_reducible exact True.intro
    refine Or.inl ⟨_, rfl, rfl, by first | rfl | (simp; done) | (simp; omega), ?_⟩; refine stp ?_; try with_reducible exact True.intro
    refine Or.inl ⟨_, _, rfl, rfl, by decide, rfl, by first | rfl | omega | (simp; done) | (simp; omega), rfl, by first | rfl | omega | (simp; done) | (simp; omega), by first | omega | (simp; omega), ?_⟩; refine stp ?_; try with_reducible exact True.intro
    have hm : Int.tmod (v : Int) 2 = ((v % 2 : Nat) : Int) := by rw [Int.tmod_eq_emod_of_nonneg (by omega)]; omega
    rw [hm]
    by_cases c2 : v % 2 = 1
    · have hf : firstL (v + 1) = firstL v ++ [[(v : Int), v + 1]] ++ [[(v : Int), v + 1]] := by rw [firstL, if_pos c2]
      refine brT (decide_eq_true (by omega)) ?_
      refine stp ?_; try with_reducible exact True.intro
      refine Or.inl ⟨_, rfl, rfl, by first | rfl | (simp; done) | (simp; omega), ?_⟩; refine stp ?_; try with_reducible exact True.intro
      refine Or.inl ⟨_, _, rfl, rfl, by decide, rfl, by first | rfl | omega | (simp; done) | (simp; omega), rfl, by first | rfl | omega | (simp; done) | (simp; omega), by first | omega | (simp; omega), ?_⟩; refine stp ?_; try with_reducible exact True.intro
      refine ⟨v + 1, ⟨.frz [], [6], ⟨rfl, ?_, rfl, trivial⟩, ⟨?_, trivial⟩, by decide, rfl, rfl, rfl⟩, by first | ((try dsimp only); omega) | (simp; omega), by first | ((try dsimp only); omega) | (simp; omega)⟩ <;> rw [hf]
      · show V.own 6 0 _ = V.own 6 0 _
        congr 1
        simp
      · rfl
    · have hf : firstL (v + 1) = firstL v ++ [[(v : Int), v + 1]] := by rw [firstL, if_neg c2, List.append_nil]
      refine brF (decide_eq_false (by omega)) ?_
      refine stp ?_; try with_reducible exact True.intro
      refine ⟨v + 1, ⟨.frz [], [3], ⟨rfl, ?_, rfl, trivial⟩, ⟨?_, trivial⟩, by decide, rfl, rfl, rfl⟩, by first | ((try dsimp only); omega) | (simp; omega), by first | ((try dsimp only); omega) | (simp; omega)⟩ <;> rw [hf]
      · show V.own 3 0 _ = V.own 3 0 _
        congr 1
        simp
      · rfl
  · obtain rfl : v = (2 * g - 3).toNat := by omega
    refine stp ?_; try with_reducible exact True.intro
    refine Or.inl ⟨_, rfl, rfl, by first | rfl | (simp; done) | (simp; omega), ?_⟩; refine stp ?_; try with_reducible exact True.intro
    refine Or.inl ⟨_, _, rfl, rfl, by decide, rfl, by first | rfl | omega | (simp; done) | (simp; omega), rfl, by first | rfl | omega | (simp; done) | (simp; omega), by first | omega | (simp; omega), ?_⟩; refine stp ?_; try with_reducible exact True.intro
    refine ⟨.frz [], [3], ⟨?_, trivial⟩, ⟨rfl, trivial⟩, by decide, rfl, rfl, rfl⟩
    show V.own 3 0 _ = V.own 3 0 _
    congr 1
    simp [firstP]
def pantsAll (g : Int) : List Tbl := (reachA g (leastP g (firstP g))).1.foldl addT []
theorem first_pants : ∀ g : Int, 2 ≤ g ∧ g ≤ 4 → isPants g (firstP g) = true := fun g hg => by
  have h2 : isPants 2 (firstP 2) = true := by decide +kernel
  have h3 : isPants 3 (firstP 3) = true := by decide +kernel
  have h4 : isPants 4 (firstP 4) = true := by decide +kernel
  have : g = 2 ∨ g = 3 ∨ g = 4 := by omega
  rcases this with rfl | rfl | rfl <;> assumption
theorem foldA_facts {L : Nat} : ∀ (l : List Tbl), (∀ s ∈ l, Tb L s) → Asc (l.foldl addT []) ∧ ∀ t, t ∈ l.foldl addT [] ↔ t ∈ l := fun l => by
  have hfold : ∀ (l acc : List Tbl), Asc acc → (∀ s ∈ acc, Tb L s) → (∀ s ∈ l, Tb L s) → Asc (l.foldl addT acc) ∧ ∀ t, t ∈ l.foldl addT acc ↔ t ∈ acc ∨ t ∈ l := fun l => by
    induction l with
    | nil => intro acc h1 h2 h3; exact ⟨h1, by simp⟩
    | cons x l ih =>
      intro acc h1 h2 h3
      obtain ⟨_, f2, f3⟩ := add_facts (h3 x (by simp)) h1 h2
      obtain ⟨i1, i2⟩ := ih (addT acc x) f2 (fun s hs => by
        rcases (f3 s).1 hs with hs | rfl
        · exact h2 s hs
        · exact h3 _ (by simp)) fun s hs => h3 s (by simp [hs])
      exact ⟨i1, fun t => by rw [List.foldl_cons, i2, f3, List.mem_cons, or_assoc]⟩
  intro h
  obtain ⟨h1, h2⟩ := hfold l [] (by simp [Asc]) (by simp) h
  exact ⟨h1, fun t => by rw [h2]; simp⟩
theorem pantsAll_facts {g : Int} (hg : 2 ≤ g ∧ g ≤ 4) : ∃ L, L ≤ 9 ∧ 0 < L ∧ Cn g L (leastP g (firstP g)) ∧ Asc (pantsAll g) ∧ ∀ t, t ∈ pantsAll g ↔ Rch g (leastP g (firstP g)) t := by
  have hp := first_pants g hg
  obtain ⟨n, hn, n2, n6, _, hlen, hl9, hok⟩ := pants_facts hp
  have hc := leastP_cn hp
  obtain ⟨h1, h2⟩ := reachA_facts hc
  obtain ⟨h3, h4⟩ := foldA_facts (L := (firstP g).length) _ fun s hs => (h1.cn s hs).2
  exact ⟨_, hl9, by omega, hc, h3, fun t => (h4 t).trans (h2 t)⟩
theorem fold_take_succ {S : List Tbl} {i : Nat} (h : i < S.length) : (S.take (i + 1)).foldl addT [] = addT ((S.take i).foldl addT []) (rdS S i) := by
  rw [take_succS h, List.foldl_append]; rfl
theorem PantsOfS {g : Int} (hg : 2 ≤ g ∧ g ≤ 4) : ConT Try.prog 30 [.i g] (.own 0 0 (pantsAll g).length) [.arr (.list (.list (.int .i64))) (pantsAll g) false] := by
  refine conT_of hmix hTab Try.func30 rfl rfl (by kernel_rfl) (by show 1 ≤ Try.f30.ntmps; decide) ?_
  have hp := first_pants g hg
  have hre := l19Reach hp
  have hfi := l19First g hg
  obtain ⟨n, hn, n2, n6, _, hlen, hl9, hok⟩ := pants_facts hp
  have hc := leastP_cn hp
  obtain ⟨hb, hm⟩ := reachA_facts hc
  have hal : pantsAll g = (reachA g (leastP g (firstP g))).1.foldl addT [] := rfl
  generalize leastP g (firstP g) = a at *
  generalize reachA g a = p at *
  have hsz := hb.size
  have hB := bigB_le
  have hin : (decide (2 ≤ g ∧ g ≤ 4)) = true := decide_eq_true hg
  rw [hal]
  refine stp ?_; try with_reducible exact True.intro
  refine Or.inr ?_; refine stp ?_; try with_reducible exact True.intro
  refine useT ((l1In g 2 4).toT) ?_; try with_reducible exact True.intro
  rw [hin]
  refine stp ?_; try with_reducible exact True.intro
  refine useT (hfi) ?_; try with_reducible exact True.intro
  refine useT (hre) ?_; try with_reducible exact True.intro
  refine ⟨Nat, fun i => i ≤ p.1.length, fun i => p.1.length - i, fun i => [(3, .own 0 0 ((p.1.take i).foldl addT []).length), (4, .own 1 0 p.1.length), (6, .i i)], fun i => [.arr (.list (.list (.int .i64))) ((p.1.take i).foldl addT []) false, .arr (.list (.list (.int .i64))) p.1 false], ⟨0, (fitK [] [0, 2]), Nat.zero_le _⟩, fun i hi => ?_⟩
  dsimp only at hi ⊢
  obtain ⟨f1, f2⟩ := foldA_facts (L := (firstP g).length) (p.1.take i) fun s hs => (hb.cn s (List.mem_of_mem_take hs)).2
  have fS : ∀ s ∈ (p.1.take i).foldl addT [], Tb (firstP g).length s := fun s hs => (hb.cn s (List.mem_of_mem_take ((f2 s).1 hs))).2
  have fsz := pants_bound (g := g) f1.nodup fun s hs => (hb.cn s (List.mem_of_mem_take ((f2 s).1 hs))).1
  have fsu := fun h => fold_take_succ (S := p.1) (i := i) h
  generalize hSg : (p.1.take i).foldl addT [] = S at *
  refine stp ?_; try with_reducible exact True.intro
  refine Br.mk (fun c1 => ?_) (fun c1 => ?_) <;> simp [-Int.ofNat_toNat] at c1
  · have had := l19AddV (firstP g).length hl9 S (rdS p.1 i) fS (hb.cn _ (rdS_mem c1)).2 (by omega)
    replace fsu := fsu c1
    have hal2 := addT_len S (rdS p.1 i)
    refine stp ?_; try with_reducible exact True.intro
    cases hh : hasT S (rdS p.1 i) with
    | true =>
      simp only [hh, if_true] at had hal2
      have hsame : addT S (rdS p.1 i) = S := by rw [addT, hh, if_pos rfl]
      refine useI [0] (had) ?_; try with_reducible exact True.intro
      refine ⟨i + 1, ⟨.frz [], [0, 1], ⟨?_, rfl, rfl, trivial⟩, ⟨?_, rfl, trivial⟩, by decide, rfl, rfl, rfl⟩, c1, by first | ((try dsimp only); omega) | (simp; omega)⟩ <;> rw [fsu, hsame] <;> rfl
    | false =>
      simp only [hh, Bool.false_eq_true, if_false] at had hal2
      refine useI [0] (had) ?_; try with_reducible exact True.intro
      refine ⟨i + 1, ⟨.frz [], [2, 1], ⟨?_, rfl, rfl, trivial⟩, ⟨?_, rfl, trivial⟩, by decide, rfl, rfl, rfl⟩, c1, by first | ((try dsimp only); omega) | (simp; omega)⟩ <;> rw [fsu]
      · rw [hal2]; rfl
      · rfl
  · obtain rfl : i = p.1.length := by omega
    rw [List.take_length] at hSg
    rw [hSg]
    refine stp ?_; try with_reducible exact True.intro
    exact (fitK [] [0])
end Go.Proofs.YtlglchbkenaekaaTv
end
section
open Go Go.Proofs.YtlglchbkenaekaaVe Go.Proofs.YtlglchbkenaekaaTv Go.Proofs
namespace Go.Proofs.YtlglchbkenaekaaTv
set_option maxRecDepth 8000
set_option maxHeartbeats 2000000
theorem copy_gen {α : Type} {S T : List α} {d x : α} {i a o n m j : Nat} (hT : T = S ++ [d]) (hi : i ≤ S.length) (ha : a = i + 1) (ho : o = i) (hn : n = S.length + 1 - i) (hm : m = S.length - i) (hj : j = i) :
    (List.take a T ++ List.take (min (List.take n (List.drop o T)).length m) (List.take n (List.drop o T)) ++ List.drop (a + min (List.take n (List.drop o T)).length m) T).set j x = List.take i S ++ x :: List.drop i S := by
  subst hT ha ho hn hm hj
  have h1 : min (List.take (S.length + 1 - j) (List.drop j (S ++ [d]))).length (S.length - j) = S.length - j := by simp; omega
  rw [h1, List.drop_of_length_le (i := j + 1 + (S.length - j)) (by simp; omega), List.append_nil]
  have h2 : List.take (S.length - j) (List.take (S.length + 1 - j) (List.drop j (S ++ [d]))) = List.drop j S := by
    rw [List.take_take, Nat.min_eq_left (by omega), List.drop_append_of_le_length hi, List.take_append_of_le_length (by simp), List.take_of_length_le (by simp)]
  rw [h2]
  refine List.ext_getElem? fun k => ?_
  rw [List.getElem?_set]
  by_cases c : j = k
  · subst c
    rw [if_pos rfl, if_pos (by simp; omega), List.getElem?_append_right (by simp; omega)]
    simp [show j - min j S.length = 0 by omega]
  · rw [if_neg c]
    by_cases c2 : k < j
    · rw [List.getElem?_append_left (by simp; omega), List.getElem?_append_left (by simp; omega), List.getElem?_take_of_lt (by omega), List.getElem?_take_of_lt c2, List.getElem?_append_left (by omega)]
    · rw [List.getElem?_append_right (by simp; omega), List.getElem?_append_right (by simp; omega)]
      simp only [List.length_take, List.length_append, List.length_cons, List.length_nil]
      rw [show k - min j S.length = (k - min (j + 1) (S.length + (0 + 1))) + 1 by omega, List.getElem?_cons_succ]
theorem pantsSetV (L : Nat) (hL : L ≤ 9) (S : List Tbl) (x : Tbl) (hS : ∀ s ∈ S, Tb L s) (hx : Tb L x) (hn : (S.length : Int) < 274877906944) : ConI Try.prog 77 [.own 0 0 S.length, .ill x] [.arr (.list (.list (.int .i64))) S false]
    (if hasT S x = true then .tup [.own 0 0 S.length, .b false] else .tup [.own 1 0 (S.length + 1), .b true]) (if hasT S x = true then [.arr (.list (.list (.int .i64))) S false] else [.gone, .arr (.list (.list (.int .i64))) (addT S x) false]) := by
  have hxl := hx.len
  subst hxl
  refine conI_of hmix hTab Try.func77 rfl rfl (by kernel_rfl) (by show 2 ≤ Try.f77.ntmps; decide) ?_
  refine stp ?_; try with_reducible exact True.intro
  refine ⟨Nat, fun i => i ≤ S.length ∧ posT S x = i + posT (S.drop i) x, fun i => S.length - i, fun i => [(0, .own 0 0 S.length), (1, .ill x), (6, .i i)], fun i => [.arr (.list (.list (.int .i64))) S false], ⟨0, (fitK [] [0]), by simp⟩, fun i ⟨hi, hp⟩ => ?_⟩
  dsimp only at hi hp ⊢
  refine stp ?_; try with_reducible exact True.intro
  refine Br.mk (fun h1 => ?_) (fun h1 => ?_) <;> simp [-Int.ofNat_toNat] at h1
  · have hm := hS _ (rdS_mem h1)
    have hc := compareRows (rdS S i) x (by rw [hm.len]; exact hL) (by rw [hm.len]) hm.small hx.small
    rw [drop_consS h1, posT] at hp
    refine stp ?_; try with_reducible exact True.intro
    refine useT (hc.toT) ?_; try with_reducible exact True.intro
    refine Br.mk (fun c1 => ?_) (fun c1 => ?_) <;> simp [-Int.ofNat_toNat] at c1
    · rw [if_pos c1] at hp
      refine stp ?_; try with_reducible exact True.intro
      exact ⟨i + 1, (fitK [] [0]), ⟨h1, by omega⟩, by first | ((try dsimp only); omega) | (simp; omega)⟩
    · rw [if_neg (by omega)] at hp
      refine stp ?_; try with_reducible exact True.intro
      refine brT (decide_eq_true (by omega)) ?_
      refine stp ?_; try with_reducible exact True.intro
      refine useT (hc.toT) ?_; try with_reducible exact True.intro
      refine Br.mk (fun c2 => ?_) (fun c2 => ?_) <;> simp [-Int.ofNat_toNat] at c2
      · have hh : hasT S x = true := by
          simp only [hasT, Bool.and_eq_true, decide_eq_true_eq]
          rw [hp, Nat.add_zero]
          exact ⟨h1, c2⟩
        simp only [hh, if_true]
        refine stp ?_; try with_reducible exact True.intro
        exact (fitK [] [0])
      · have hh : hasT S x = false := by
          simp only [hasT, Bool.and_eq_false_iff, decide_eq_false_iff_not]
          rw [hp, Nat.add_zero]
          exact .inr c2
        have had : addT S x = S.take i ++ x :: S.drop i := by
          rw [addT, hh, if_neg (by simp), hp, Nat.add_zero]
        rw [had]
        simp only [hh, Bool.false_eq_true, if_false]
        refine stp ?_; try with_reducible exact True.intro
        refine Or.inr ?_; refine stp ?_; try with_reducible exact True.intro
        refine Or.inr ?_; refine stp ?_; try with_reducible exact True.intro
        refine ⟨.frz [], [0, 2], ⟨?_, trivial⟩, ⟨rfl, ?_, trivial⟩, by decide, rfl, rfl, rfl⟩
        · show V.tup [V.own 2 0 _, V.b true] = V.tup [V.own 2 0 _, V.b true]
          simp
        · refine congrArg (fun x => some (Obj.arr (.list (.list (.int .i64))) x false)) ?_
          exact copy_gen (d := []) (by simp) hi (by omega) (by omega) (by simp <;> omega) (by simp <;> omega) (by omega)
  · obtain rfl : i = S.length := by omega
    rw [List.drop_of_length_le (Nat.le_refl _), posT, Nat.add_zero] at hp
    have hh : hasT S x = false := by
      simp only [hasT, hp, Nat.lt_irrefl, decide_false, Bool.false_and]
    have had : addT S x = S.take S.length ++ x :: S.drop S.length := by
      rw [addT, hh, if_neg (by simp), hp]
    rw [had]
    simp only [hh, Bool.false_eq_true, if_false]
    refine stp ?_; try with_reducible exact True.intro
    refine brF (decide_eq_false (by omega)) ?_
    refine stp ?_; try with_reducible exact True.intro
    refine Or.inr ?_; refine stp ?_; try with_reducible exact True.intro
    refine Or.inr ?_; refine stp ?_; try with_reducible exact True.intro
    refine ⟨.frz [], [0, 2], ⟨?_, trivial⟩, ⟨rfl, ?_, trivial⟩, by decide, rfl, rfl, rfl⟩
    · show V.tup [V.own 2 0 _, V.b true] = V.tup [V.own 2 0 _, V.b true]
      simp
    · refine congrArg (fun x => some (Obj.arr (.list (.list (.int .i64))) x false)) ?_
      exact copy_gen (d := []) (by simp) hi (by omega) (by omega) (by simp) (by simp) (by omega)
def firstM : Nat → Tbl
  | 0 => [[0, 0], [0, 1]]
  | i + 1 => firstM i ++ [[2 * (i : Int) + 1, 2 * (i : Int) + 1 + 1], [2 * (i : Int) + 1, 2 * (i : Int) + 1 + 1], [2 * (i : Int) + 1 + 1, 2 * (i : Int) + 1 + 2]]
theorem firstM_len : ∀ i, (firstM i).length = 3 * i + 2
  | 0 => rfl
  | i + 1 => by simp [firstM, firstM_len i]; omega
theorem firstM_eq : ∀ g : Int, 2 ≤ g ∧ g ≤ 4 → firstM (g - 2).toNat ++ [[2 * g - 3, 2 * g - 3]] = firstP g := fun g hg => by
  have : g = 2 ∨ g = 3 ∨ g = 4 := by omega
  rcases this with rfl | rfl | rfl <;> decide
theorem firstPants (g : Int) (hg : 2 ≤ g ∧ g ≤ 4) : ConT Try.prog 76 [.i g] (.own 0 0 (firstP g).length) [.arr (.list (.int .i64)) (firstP g) true] := by
  refine conT_of hmix hTab Try.func76 rfl rfl (by kernel_rfl) (by show 1 ≤ Try.f76.ntmps; decide) ?_
  have hf := firstM_eq g hg
  refine stp ?_; try with_reducible exact True.intro
  refine Or.inl ⟨_, rfl, rfl, by first | rfl | (simp; done) | (simp; omega), ?_⟩; refine stp ?_; try with_reducible exact True.intro
  refine ⟨Nat, fun i => (i : Int) ≤ g - 2, fun i => g.toNat - i, fun i => [(3, .own 0 0 (firstM i).length), (4, .i (2 * i + 1)), (9, .i (g - 2)), (10, .i i)], fun i => [.arr (.list (.int .i64)) (firstM i) true], ⟨0, (fitK [] [2]), by simp; omega⟩, fun i hi => ?_⟩
  dsimp only at hi ⊢
  have hl := firstM_len i
  refine stp ?_; try with_reducible exact True.intro
  refine Br.mk (fun c1 => ?_) (fun c1 => ?_) <;> simp [-Int.ofNat_toNat] at c1
  · refine stp ?_; try with_reducible exact True.intro
    refine Or.inl ⟨_, rfl, rfl, by first | rfl | (simp; done) | (simp; omega), ?_⟩; refine stp ?_; try with_reducible exact True.intro
    refine Or.inl ⟨_, _, rfl, rfl, by decide, rfl, by first | rfl | omega | (simp; done) | (simp; omega), rfl, by first | rfl | omega | (simp; done) | (simp; omega), by first | omega | (simp; omega), ?_⟩; refine stp ?_; try with_reducible exact True.intro
    refine ⟨i + 1, ⟨.frz [], [5], ⟨?_, ?_, rfl, rfl, trivial⟩, ⟨rfl, trivial⟩, by decide, rfl, rfl, rfl⟩, by first | ((try dsimp only); omega) | (simp; omega), by first | ((try dsimp only); omega) | (simp; omega)⟩
    · show V.own 5 0 _ = V.own 5 0 _
      congr 1
      simp [firstM]
    · show V.i _ = V.i _
      congr 1 <;> omega
  · obtain rfl : i = (g - 2).toNat := by omega
    refine stp ?_; try with_reducible exact True.intro
    refine Or.inl ⟨_, rfl, rfl, by first | rfl | (simp; done) | (simp; omega), ?_⟩; refine stp ?_; try with_reducible exact True.intro
    refine Or.inl ⟨_, _, rfl, rfl, by decide, rfl, by first | rfl | omega | (simp; done) | (simp; omega), rfl, by first | rfl | omega | (simp; done) | (simp; omega), by first | omega | (simp; omega), ?_⟩; refine stp ?_; try with_reducible exact True.intro
    rw [← hf]
    refine ⟨.frz [], [3], ⟨?_, trivial⟩, ⟨?_, trivial⟩, by decide, rfl, rfl, rfl⟩
    · show V.own 3 0 _ = V.own 3 0 _
      congr 1
      simp
    · refine congrArg (fun x => some (Obj.arr (.list (.int .i64)) x true)) ?_
      rw [show 2 * ((g - 2).toNat : Int) + 1 = 2 * g - 3 by omega]
/-- What the search of the program keeps: all found ascending, some of them still to be worked on. -/
structure Que (g : Int) (L : Nat) (a : Tbl) (out w : List Tbl) : Prop where
  asc : Asc out
  rch : ∀ t ∈ out, Rch g a t
  hd : a ∈ out
  sub : ∀ t ∈ w, t ∈ out
  len : w.length ≤ out.length
theorem Que.cn {g : Int} {L : Nat} {a : Tbl} {out w : List Tbl} (h : Que g L a out w) (ha : Cn g L a) : ∀ t ∈ out, Cn g L t := fun t ht => by
  obtain ⟨k, hk⟩ := h.rch t ht
  exact hk.cn ha
theorem Que.size {g : Int} {L : Nat} {a : Tbl} {out w : List Tbl} (h : Que g L a out w) (ha : Cn g L a) : out.length ≤ bigB := pants_bound h.asc.nodup fun s hs => (h.cn ha s hs).1
def Shut (g : Int) (out : List Tbl) (t : Tbl) : Prop := ∀ u ∈ fromP g t, u ∈ out
theorem Que.done {g : Int} {L : Nat} {a : Tbl} {out : List Tbl} (h : Que g L a out []) (hc : ∀ t ∈ out, Shut g out t) : ∀ t, t ∈ out ↔ Rch g a t := fun t => ⟨h.rch t, fun ⟨m, hs⟩ => by
  induction hs with
  | zero => exact h.hd
  | succ hs1 hu ih => exact hc _ (ih ⟨_, hs1⟩) _ hu⟩
theorem PantsOfI {g : Int} (hg : 2 ≤ g ∧ g ≤ 4) : ConT Try.prog 31 [.i g] (.own 0 0 (pantsAll g).length) [.arr (.list (.list (.int .i64))) (pantsAll g) true] := by
  refine conT_of hmix hTab Try.func31 rfl rfl (by kernel_rfl) (by show 1 ≤ Try.f31.ntmps; decide) ?_
  have hp := first_pants g hg
  obtain ⟨_, _, _, _, _, hlen0, hl90, _⟩ := pants_facts hp
  have hle := LeastPantsI (g := g) (ll := firstP g) (by omega) hp
  obtain ⟨L, hL9, hL0, ha, hasc, hall⟩ := pantsAll_facts hg
  have hfl := (leastP_facts hp).1
  rw [← hfl] at hle
  have hB := bigB_le
  have hin : (decide (2 ≤ g ∧ g ≤ 4)) = true := decide_eq_true hg
  generalize leastP g (firstP g) = a at *
  refine stp ?_; try with_reducible exact True.intro
  refine useT ((within g 2 4).toT) ?_; try with_reducible exact True.intro
  rw [hin]
  refine stp ?_; try with_reducible exact True.intro
  refine useT (firstPants g hg) ?_; try with_reducible exact True.intro
  refine useT (hle) ?_; try with_reducible exact True.intro
  refine Or.inr ?_; refine stp ?_; try with_reducible exact True.intro
  refine Or.inr ?_; refine stp ?_; try with_reducible exact True.intro
  have ht1 : List.take a.length (List.drop 0 a) = a := by simp
  refine ⟨List Tbl × List Tbl × Nat, fun s => s.2.2 ≤ s.2.1.length ∧ Que g L a s.1 (s.2.1.drop s.2.2) ∧ ∀ t ∈ s.1, t ∈ s.2.1.drop s.2.2 ∨ Shut g s.1 t, fun s => 2 * (bigB - s.1.length) + (s.2.1.length - s.2.2), fun s => [(0, .i g), (4, .own 0 0 s.1.length), (5, .own 1 s.2.2 (s.2.1.length - s.2.2))], fun s => [.arr (.list (.list (.int .i64))) s.1 false, .arr (.list (.list (.int .i64))) s.2.1 false], ⟨([a], [a], 0), (fitK [] [2, 3]), by simp, ⟨by simp [Asc], fun t ht => by simp at ht; exact ⟨0, by rw [ht]; exact .zero⟩, by simp, fun t ht => ht, by simp⟩, fun t ht => .inl ht⟩, fun ⟨out, W, o⟩ ⟨ho, hq, hcl⟩ => ?_⟩
  dsimp only at ho hq hcl ⊢
  have hosz := hq.size ha
  have hql := hq.len
  rw [List.length_drop] at hql
  refine stp ?_; try with_reducible exact True.intro
  refine Br.mk (fun c1 => ?_) (fun c1 => ?_) <;> simp [-Int.ofNat_toNat] at c1
  · replace c1 : o < W.length := by omega
    have hdr := drop_consS c1
    have hmem : rdS W o ∈ out := hq.sub _ (by rw [hdr]; simp)
    have hcw := hq.cn ha _ hmem
    have hfr := PantsFromI (g := g) (ll := rdS W o) (by rw [hcw.2.len]; omega) hcw.1
    obtain ⟨hfc, hf18⟩ := fromP_facts hcw
    have hrw : Rch g a (rdS W o) := hq.rch _ hmem
    have hrn : ∀ u ∈ fromP g (rdS W o), Rch g a u := fun u hu => by
      obtain ⟨m, hm⟩ := hrw
      exact ⟨m + 1, .succ hm hu⟩
    have hshut : Shut g = fun out t => ∀ u ∈ fromP g t, u ∈ out := rfl
    have hw0 : rdT (.list (.list (.int .i64))) W ((o : Nat) : Int) = rdS W o := rfl
    have hfin : ∀ out' w' : List Tbl, (∀ t ∈ out', t = rdS W o ∨ t ∈ w' ∨ Shut g out' t) → (∀ i : Nat, i < (fromP g (rdS W o)).length → rdS (fromP g (rdS W o)) i ∈ out') → ∀ t ∈ out', t ∈ w' ∨ Shut g out' t := fun out' w' h1 h2 t ht => by
      rcases h1 t ht with rfl | h | h
      · exact .inr fun u hu => by
          obtain ⟨i, hi, rfl⟩ := mem_rdS hu
          exact h2 i hi
      · exact .inl h
      · exact .inr h
    generalize hnear : fromP g (rdS W o) = near at *
    cases o with
    | zero =>
      refine stp ?_; try with_reducible exact True.intro
      refine useT (hfr) ?_; try with_reducible exact True.intro
      refine ⟨(List Tbl × List Tbl × Nat) × Nat, fun s => s.2 ≤ near.length ∧ s.1.2.2 ≤ s.1.2.1.length ∧ Que g L a s.1.1 (s.1.2.1.drop s.1.2.2) ∧ (∀ t ∈ s.1.1, t = rdS W 0 ∨ t ∈ s.1.2.1.drop s.1.2.2 ∨ Shut g s.1.1 t) ∧ (∀ i : Nat, i < s.2 → rdS near i ∈ s.1.1) ∧ (s.1.2.1.length - s.1.2.2) + 2 * out.length + 1 ≤ 2 * s.1.1.length + (W.length - 0), fun s => near.length - s.2, fun s => [(0, .i g), (4, .own 0 0 s.1.1.length), (5, .own 1 s.1.2.2 (s.1.2.1.length - s.1.2.2)), (35, .own 2 0 near.length), (36, .i near.length), (37, .i s.2)], fun s => [.arr (.list (.list (.int .i64))) s.1.1 false, .arr (.list (.list (.int .i64))) s.1.2.1 false, .frz (.list (.list (.int .i64))) near],
        ⟨((out, W, 0 + 1), 0), ⟨.frz [2], [0, 1, 2], ⟨rfl, rfl, ?_, rfl, rfl, rfl, trivial⟩, ⟨rfl, rfl, rfl, trivial⟩, by decide, rfl, rfl, rfl⟩, by simp, c1, ⟨hq.asc, hq.rch, hq.hd, fun t ht => hq.sub t (by rw [hdr]; exact List.mem_cons_of_mem _ ht), by simp; omega⟩, fun t ht => ?_, fun i hi => by omega, by dsimp only; omega⟩, fun ⟨⟨out2, W2, o2⟩, j⟩ ⟨hj, ho2, hq2, hcl2, hnj, hms⟩ => ?_⟩
      · show V.own 1 _ _ = V.own 1 (0 + 1) (W.length - (0 + 1))
        congr 1 <;> omega
      · rcases hcl t ht with h | h
        · rw [hdr] at h
          rcases List.mem_cons.1 h with h | h
          · exact .inl h
          · exact .inr (.inl h)
        · exact .inr (.inr h)
      dsimp only at hj ho2 hq2 hcl2 hnj hms ⊢
      have hosz2 := hq2.size ha
      have hql2 := hq2.len
      rw [List.length_drop] at hql2
      refine stp ?_; try with_reducible exact True.intro
      refine Br.mk (fun c2 => ?_) (fun c2 => ?_) <;> simp [-Int.ofNat_toNat] at c2
      · replace c2 : j < near.length := by omega
        have hxm := rdS_mem c2
        have hxc := hfc _ hxm
        obtain ⟨a1, a2, a3⟩ := add_facts hxc.2 hq2.asc fun s hs => (hq2.cn ha s hs).2
        have had := pantsSetV L hL9 out2 (rdS near j) (fun s hs => (hq2.cn ha s hs).2) hxc.2 (by omega)
        have hal := addT_len out2 (rdS near j)
        refine stp ?_; try with_reducible exact True.intro
        cases hh : hasT out2 (rdS near j) with
        | true =>
          simp only [hh, if_true] at had
          refine useI [0] (had) ?_; try with_reducible exact True.intro
          refine ⟨((out2, W2, o2), j + 1), (fitK [] [0, 1, 2]), ⟨c2, ho2, hq2, hcl2, fun i hi => ?_, hms⟩, by first | ((try dsimp only); omega) | (simp; omega)⟩
          by_cases e : i = j
          · rw [e]; exact a1.1 hh
          · exact hnj i (by omega)
        | false =>
          simp only [hh, Bool.false_eq_true, if_false] at had hal
          refine useI [0] (had) ?_; try with_reducible exact True.intro
          refine Or.inr ?_; refine stp ?_; try with_reducible exact True.intro
          refine Or.inr ?_; refine stp ?_; try with_reducible exact True.intro
          have hnin : ¬ rdS near j ∈ out2 := fun c => by rw [a1.2 c] at hh; cases hh
          have hW3 : List.take (W2.length - o2) (W2.drop o2) = W2.drop o2 := List.take_of_length_le (by simp)
          refine ⟨((addT out2 (rdS near j), W2.drop o2 ++ [rdS near j], 0), j + 1), ⟨.frz [], [3, 5, 2], ⟨rfl, ?_, ?_, rfl, rfl, rfl, trivial⟩, ⟨rfl, ?_, rfl, trivial⟩, by decide, rfl, rfl, rfl⟩, ⟨c2, Nat.zero_le _, ?_, fun t ht => ?_, fun i hi => ?_, ?_⟩, by first | ((try dsimp only); omega) | (simp; omega)⟩
          · show V.own 3 0 _ = V.own 3 0 _
            rw [hal]
          · show V.own 5 0 _ = V.own 5 0 _
            congr 1
            simp
          · refine congrArg (fun x => some (Obj.arr (.list (.list (.int .i64))) x false)) ?_
            rw [hW3]
            simp
            rfl
          · refine ⟨a2, fun t ht => ?_, (a3 a).2 (.inl hq2.hd), fun t ht => ?_, ?_⟩
            · rcases (a3 t).1 ht with h | rfl
              · exact hq2.rch t h
              · exact hrn _ hxm
            · rw [List.drop_zero] at ht
              rcases List.mem_append.1 ht with h | h
              · exact (a3 t).2 (.inl (hq2.sub t h))
              · rw [List.mem_singleton] at h; exact (a3 t).2 (.inr h)
            · rw [hal]; simp; omega
          · rw [List.drop_zero]
            rcases (a3 t).1 ht with h | rfl
            · rcases hcl2 t h with h | h | h
              · exact .inl h
              · exact .inr (.inl (List.mem_append_left _ h))
              · exact .inr (.inr fun u hu => (a3 u).2 (.inl (h u hu)))
            · exact .inr (.inl (by simp))
          · by_cases e : i = j
            · rw [e]; exact (a3 _).2 (.inr rfl)
            · exact (a3 _).2 (.inl (hnj i (by omega)))
          · dsimp only
            rw [hal]
            simp
            omega
      · obtain rfl : j = near.length := by omega
        refine stp ?_; try with_reducible exact True.intro
        exact ⟨(out2, W2, o2), (fitK [] [0, 1]), ⟨ho2, hq2, hfin _ _ hcl2 hnj⟩, by first | ((try dsimp only); omega) | (simp; omega)⟩
    | succ o =>
      refine stp ?_; try with_reducible exact True.intro
      refine useT (hfr) ?_; try with_reducible exact True.intro
      refine ⟨(List Tbl × List Tbl × Nat) × Nat, fun s => s.2 ≤ near.length ∧ s.1.2.2 ≤ s.1.2.1.length ∧ Que g L a s.1.1 (s.1.2.1.drop s.1.2.2) ∧ (∀ t ∈ s.1.1, t = rdS W (o + 1) ∨ t ∈ s.1.2.1.drop s.1.2.2 ∨ Shut g s.1.1 t) ∧ (∀ i : Nat, i < s.2 → rdS near i ∈ s.1.1) ∧ (s.1.2.1.length - s.1.2.2) + 2 * out.length + 1 ≤ 2 * s.1.1.length + (W.length - (o + 1)), fun s => near.length - s.2, fun s => [(0, .i g), (4, .own 0 0 s.1.1.length), (5, .own 1 s.1.2.2 (s.1.2.1.length - s.1.2.2)), (35, .own 2 0 near.length), (36, .i near.length), (37, .i s.2)], fun s => [.arr (.list (.list (.int .i64))) s.1.1 false, .arr (.list (.list (.int .i64))) s.1.2.1 false, .frz (.list (.list (.int .i64))) near],
        ⟨((out, W, (o + 1) + 1), 0), ⟨.frz [2], [0, 1, 2], ⟨rfl, rfl, ?_, rfl, rfl, rfl, trivial⟩, ⟨rfl, rfl, rfl, trivial⟩, by decide, rfl, rfl, rfl⟩, by simp, c1, ⟨hq.asc, hq.rch, hq.hd, fun t ht => hq.sub t (by rw [hdr]; exact List.mem_cons_of_mem _ ht), by simp; omega⟩, fun t ht => ?_, fun i hi => by omega, by dsimp only; omega⟩, fun ⟨⟨out2, W2, o2⟩, j⟩ ⟨hj, ho2, hq2, hcl2, hnj, hms⟩ => ?_⟩
      · show V.own 1 _ _ = V.own 1 ((o + 1) + 1) (W.length - ((o + 1) + 1))
        congr 1 <;> omega
      · rcases hcl t ht with h | h
        · rw [hdr] at h
          rcases List.mem_cons.1 h with h | h
          · exact .inl h
          · exact .inr (.inl h)
        · exact .inr (.inr h)
      dsimp only at hj ho2 hq2 hcl2 hnj hms ⊢
      have hosz2 := hq2.size ha
      have hql2 := hq2.len
      rw [List.length_drop] at hql2
      refine stp ?_; try with_reducible exact True.intro
      refine Br.mk (fun c2 => ?_) (fun c2 => ?_) <;> simp [-Int.ofNat_toNat] at c2
      · replace c2 : j < near.length := by omega
        have hxm := rdS_mem c2
        have hxc := hfc _ hxm
        obtain ⟨a1, a2, a3⟩ := add_facts hxc.2 hq2.asc fun s hs => (hq2.cn ha s hs).2
        have had := pantsSetV L hL9 out2 (rdS near j) (fun s hs => (hq2.cn ha s hs).2) hxc.2 (by omega)
        have hal := addT_len out2 (rdS near j)
        refine stp ?_; try with_reducible exact True.intro
        cases hh : hasT out2 (rdS near j) with
        | true =>
          simp only [hh, if_true] at had
          refine useI [0] (had) ?_; try with_reducible exact True.intro
          refine ⟨((out2, W2, o2), j + 1), (fitK [] [0, 1, 2]), ⟨c2, ho2, hq2, hcl2, fun i hi => ?_, hms⟩, by first | ((try dsimp only); omega) | (simp; omega)⟩
          by_cases e : i = j
          · rw [e]; exact a1.1 hh
          · exact hnj i (by omega)
        | false =>
          simp only [hh, Bool.false_eq_true, if_false] at had hal
          refine useI [0] (had) ?_; try with_reducible exact True.intro
          refine Or.inr ?_; refine stp ?_; try with_reducible exact True.intro
          refine Or.inr ?_; refine stp ?_; try with_reducible exact True.intro
          have hnin : ¬ rdS near j ∈ out2 := fun c => by rw [a1.2 c] at hh; cases hh
          have hW3 : List.take (W2.length - o2) (W2.drop o2) = W2.drop o2 := List.take_of_length_le (by simp)
          refine ⟨((addT out2 (rdS near j), W2.drop o2 ++ [rdS near j], 0), j + 1), ⟨.frz [], [3, 5, 2], ⟨rfl, ?_, ?_, rfl, rfl, rfl, trivial⟩, ⟨rfl, ?_, rfl, trivial⟩, by decide, rfl, rfl, rfl⟩, ⟨c2, Nat.zero_le _, ?_, fun t ht => ?_, fun i hi => ?_, ?_⟩, by first | ((try dsimp only); omega) | (simp; omega)⟩
          · show V.own 3 0 _ = V.own 3 0 _
            rw [hal]
          · show V.own 5 0 _ = V.own 5 0 _
            congr 1
            simp
          · refine congrArg (fun x => some (Obj.arr (.list (.list (.int .i64))) x false)) ?_
            rw [hW3]
            simp
            rfl
          · refine ⟨a2, fun t ht => ?_, (a3 a).2 (.inl hq2.hd), fun t ht => ?_, ?_⟩
            · rcases (a3 t).1 ht with h | rfl
              · exact hq2.rch t h
              · exact hrn _ hxm
            · rw [List.drop_zero] at ht
              rcases List.mem_append.1 ht with h | h
              · exact (a3 t).2 (.inl (hq2.sub t h))
              · rw [List.mem_singleton] at h; exact (a3 t).2 (.inr h)
            · rw [hal]; simp; omega
          · rw [List.drop_zero]
            rcases (a3 t).1 ht with h | rfl
            · rcases hcl2 t h with h | h | h
              · exact .inl h
              · exact .inr (.inl (List.mem_append_left _ h))
              · exact .inr (.inr fun u hu => (a3 u).2 (.inl (h u hu)))
            · exact .inr (.inl (by simp))
          · by_cases e : i = j
            · rw [e]; exact (a3 _).2 (.inr rfl)
            · exact (a3 _).2 (.inl (hnj i (by omega)))
          · dsimp only
            rw [hal]
            simp
            omega
      · obtain rfl : j = near.length := by omega
        refine stp ?_; try with_reducible exact True.intro
        exact ⟨(out2, W2, o2), (fitK [] [0, 1]), ⟨ho2, hq2, hfin _ _ hcl2 hnj⟩, by first | ((try dsimp only); omega) | (simp; omega)⟩
  · obtain rfl : o = W.length := by omega
    rw [List.drop_length] at hq hcl
    have hset := hq.done fun t ht => (hcl t ht).resolve_left (by simp)
    obtain rfl : out = pantsAll g := asc_unique hq.asc hasc fun t => (hset t).trans (hall t).symm
    have hcn := hq.cn ha
    generalize pantsAll g = out at *
    refine stp ?_; try with_reducible exact True.intro
    refine Or.inl ?_; refine stp ?_; try with_reducible exact True.intro
    refine ⟨Nat, fun i => i ≤ out.length, fun i => out.length - i, fun i => [(11, .own 1 0 i), (55, .own 0 0 out.length), (56, .i out.length), (57, .i i)], fun i => [.arr (.list (.list (.int .i64))) out false, .arr (.list (.list (.int .i64))) (out.take i) true], ⟨0, (fitK [] [0, 2]), Nat.zero_le _⟩, fun i hi => ?_⟩
    dsimp only at hi ⊢
    have htl : (out.take i).length = i := by simp; omega
    refine stp ?_; try with_reducible exact True.intro
    refine Br.mk (fun c2 => ?_) (fun c2 => ?_) <;> simp [-Int.ofNat_toNat] at c2
    · have hci := hcn _ (rdS_mem c2)
      have hcr := copyRows (rdS out i) (by rw [hci.2.len]; omega) fun r hr => by rw [hci.2.prs r hr]; omega
      have hts := take_succS c2
      refine stp ?_; try with_reducible exact True.intro
      refine useT (hcr) ?_; try with_reducible exact True.intro
      refine Or.inl ⟨_, rfl, rfl, by first | rfl | (simp; done) | (simp; omega), ?_⟩; refine stp ?_; try with_reducible exact True.intro
      refine Or.inl ⟨_, _, rfl, rfl, by decide, rfl, by rw [htl], rfl, by first | rfl | omega | (simp; done) | (simp; omega), by first | omega | (simp; omega), ?_⟩; refine stp ?_; try with_reducible exact True.intro
      refine ⟨i + 1, ⟨.frz [], [0, 4], ⟨rfl, rfl, rfl, rfl, trivial⟩, ⟨rfl, ?_, trivial⟩, by decide, rfl, rfl, rfl⟩, c2, by first | ((try dsimp only); omega) | (simp; omega)⟩
      rw [hts]
      rfl
    · obtain rfl : i = out.length := by omega
      refine stp ?_; try with_reducible exact True.intro
      exact (fitK [] [1])
theorem PantsOfS0 {g : Int} (hg : ¬ (2 ≤ g ∧ g ≤ 4)) : ConT Try.prog 30 [.i g] (.own 0 0 0) [.arr (.list (.list (.int .i64))) [] true] := by
  refine conT_of hmix hTab Try.func30 rfl rfl (by kernel_rfl) (by show 1 ≤ Try.f30.ntmps; decide) ?_
  have hin : (decide (2 ≤ g ∧ g ≤ 4)) = false := decide_eq_false hg
  refine stp ?_; try with_reducible exact True.intro
  refine Or.inl ?_; refine stp ?_; try with_reducible exact True.intro
  refine useT ((l1In g 2 4).toT) ?_; try with_reducible exact True.intro
  rw [hin]
  refine stp ?_; try with_reducible exact True.intro
  exact (fitK [] [0])
theorem PantsOfI0 {g : Int} (hg : ¬ (2 ≤ g ∧ g ≤ 4)) : ConT Try.prog 31 [.i g] (.nil .unit) [] := by
  refine conT_of hmix hTab Try.func31 rfl rfl (by kernel_rfl) (by show 1 ≤ Try.f31.ntmps; decide) ?_
  have hin : (decide (2 ≤ g ∧ g ≤ 4)) = false := decide_eq_false hg
  refine stp ?_; try with_reducible exact True.intro
  refine useT ((within g 2 4).toT) ?_; try with_reducible exact True.intro
  rw [hin]
  refine stp ?_; try with_reducible exact True.intro
  exact (fitK [] [])
theorem lawPantsOf (g : Int) : ConS Try.prog 8 [.i g] (.b true) := by
  refine conS_of hmix hTab Try.func8 rfl rfl (by kernel_rfl) (by show 1 ≤ Try.f8.ntmps; decide) rfl ?_
  by_cases hg : 2 ≤ g ∧ g ≤ 4
  · have hS := PantsOfS hg
    have hI := PantsOfI hg
    obtain ⟨L, hL9, hL0, ha, hasc, hall⟩ := pantsAll_facts hg
    have hcn : ∀ s ∈ pantsAll g, Cn g L s := fun s hs => by
      obtain ⟨k, hk⟩ := (hall s).1 hs
      exact hk.cn ha
    have hsz := pants_bound (g := g) hasc.nodup fun s hs => (hcn s hs).1
    have hB := bigB_le
    generalize pantsAll g = r at *
    have hr1 : ∀ s ∈ r, (s.length : Int) ≤ 274877906944 := fun s hs => by have := (hcn s hs).2.len; omega
    have hr2 : ∀ s ∈ r, ∀ x ∈ s, (x.length : Int) ≤ 274877906944 := fun s hs x hx => by have := (hcn s hs).2.prs x hx; omega
    have htr := totalS_le (S := r) (c := 18) fun s hs => by
      have h6 := total_le (ll := s) (c := 2) fun x hx => Nat.le_of_eq ((hcn s hs).2.prs x hx)
      have := (hcn s hs).2.len
      omega
    have htr0 := totalS_nonneg r
    have hml := marksS_length 1 r
    refine stp ?_; try with_reducible exact True.intro
    refine useT (hS) ?_; try with_reducible exact True.intro
    refine useT (hI) ?_; try with_reducible exact True.intro
    refine useT ((eqIntSSS r r (by omega) hr1 hr2).toT) ?_; try with_reducible exact True.intro
    refine Br.mk (fun h6 => ?_) (fun h6 => ?_) <;> simp [-Int.ofNat_toNat] at h6
    refine stp ?_; try with_reducible exact True.intro
    refine useI [1] (markIntSSS r 1 (by omega) (by omega) hr1 hr2) ?_; try with_reducible exact True.intro
    refine useT ((heldIntSSS r 1 (by omega) (by omega) hr1 hr2).toT) ?_; try with_reducible exact True.intro
    refine brF (by simp; omega) ?_
    refine stp ?_; try with_reducible exact True.intro
    refine Br.mk (fun h9 => ?_) (fun h9 => ?_) <;> simp [-Int.ofNat_toNat] at h9
    refine stp ?_; try with_reducible exact True.intro
    refine useT (hI) ?_; try with_reducible exact True.intro
    refine useT ((eqIntSSS r r (by omega) hr1 hr2).toT) ?_; try with_reducible exact True.intro
    refine Br.mk (fun h10 => ?_) (fun h10 => ?_) <;> simp [-Int.ofNat_toNat] at h10
    refine stp ?_; try with_reducible exact True.intro
    refine useT ((heldIntSSS r 1 (by omega) (by omega) hr1 hr2).toT) ?_; try with_reducible exact True.intro
    refine brF (by simp; omega) ?_
    refine stp ?_; try with_reducible exact True.intro
    refine Br.mk (fun h11 => ?_) (fun h11 => ?_) <;> simp [-Int.ofNat_toNat] at h11
    refine stp ?_; try with_reducible exact True.intro
  · refine stp ?_; try with_reducible exact True.intro
    refine useT (PantsOfS0 hg) ?_; try with_reducible exact True.intro
    refine useT (PantsOfI0 hg) ?_; try with_reducible exact True.intro
    refine useT ((eqIntSSS [] [] (by simp) (by simp) (by simp)).toT) ?_; try with_reducible exact True.intro
    refine useT ((markIntSSSN 1).toT) ?_; try with_reducible exact True.intro
    refine useT ((heldIntSSSN 1).toT) ?_; try with_reducible exact True.intro
    refine useT (PantsOfI0 hg) ?_; try with_reducible exact True.intro
    refine useT ((eqIntSSS [] [] (by simp) (by simp) (by simp)).toT) ?_; try with_reducible exact True.intro
    refine useT ((heldIntSSSN 1).toT) ?_; try with_reducible exact True.intro
end Go.Proofs.YtlglchbkenaekaaTv
end
section
open Go Go.Proofs.YtlglchbkenaekaaVe Go.Proofs.YtlglchbkenaekaaTv Go.Proofs
namespace Go.Proofs.YtlglchbkenaekaaTv
set_option maxRecDepth 8000
set_option maxHeartbeats 2000000
def exP (g : Int) : Tbl := rdS (pantsAll g) 0
theorem ExamplePantsS {g : Int} (hg : 2 ≤ g ∧ g ≤ 3) : ConT Try.prog 28 [.i g] (.tup [.ill (exP g), .b true]) [] := by
  refine conT_of hmix hTab Try.func28 rfl rfl (by kernel_rfl) (by show 1 ≤ Try.f28.ntmps; decide) ?_
  have hin : (decide (2 ≤ g ∧ g ≤ 3)) = true := decide_eq_true hg
  obtain ⟨L, hL9, hL0, ha, hasc, hall⟩ := pantsAll_facts (g := g) (by omega)
  have hpos : 0 < (pantsAll g).length := List.length_pos_of_mem ((hall _).2 ⟨0, .zero⟩)
  have hS := PantsOfS (g := g) (by omega)
  have hex : exP g = rdS (pantsAll g) 0 := rfl
  rw [hex]
  generalize pantsAll g = r at *
  refine stp ?_; try with_reducible exact True.intro
  refine useT ((l1In g 2 3).toT) ?_; try with_reducible exact True.intro
  rw [hin]
  refine stp ?_; try with_reducible exact True.intro
  refine useT (hS) ?_; try with_reducible exact True.intro
  exact (fitK [] [])
theorem ExamplePantsI {g : Int} (hg : 2 ≤ g ∧ g ≤ 3) : ConT Try.prog 29 [.i g] (.tup [.own 0 0 (exP g).length, .b true]) [.arr (.list (.int .i64)) (exP g) true] := by
  refine conT_of hmix hTab Try.func29 rfl rfl (by kernel_rfl) (by show 1 ≤ Try.f29.ntmps; decide) ?_
  obtain ⟨L, hL9, hL0, ha, hasc, hall⟩ := pantsAll_facts (g := g) (by omega)
  have hpos : 0 < (pantsAll g).length := List.length_pos_of_mem ((hall _).2 ⟨0, .zero⟩)
  have hcn : Cn g L (rdS (pantsAll g) ((0 : Nat) : Int)) := by
    obtain ⟨k, hk⟩ := (hall _).1 (rdS_mem hpos)
    exact hk.cn ha
  have hlen := hcn.2.len
  have hI := PantsOfI (g := g) (by omega)
  have hex : exP g = rdS (pantsAll g) ((0 : Nat) : Int) := rfl
  rw [hex]
  generalize pantsAll g = r at *
  have hg2 : r.getD (Int.toNat 0) [] = rdS r ((0 : Nat) : Int) := rfl
  by_cases h2 : g = 2
  · refine stp ?_; try with_reducible exact True.intro
    refine brF (by simp [h2]) ?_
    refine stp ?_; try with_reducible exact True.intro
    refine useT (hI) ?_; try with_reducible exact True.intro
    refine .inr ⟨by first | rfl | trivial, by omega, ⟨fun he => ?_, ?_⟩⟩
    · rw [hg2] at he
      rw [he] at hlen
      exfalso
      simp at hlen
      omega
    simp only [hg2]
    refine stp ?_; try with_reducible exact True.intro
    exact (fitK [] [1])
  · have h3 : g = 3 := by omega
    refine stp ?_; try with_reducible exact True.intro
    refine brT (by simp [h2]) ?_
    refine stp ?_; try with_reducible exact True.intro
    refine brF (by simp [h3]) ?_
    refine stp ?_; try with_reducible exact True.intro
    refine useT (hI) ?_; try with_reducible exact True.intro
    refine .inr ⟨by first | rfl | trivial, by omega, ⟨fun he => ?_, ?_⟩⟩
    · rw [hg2] at he
      rw [he] at hlen
      exfalso
      simp at hlen
      omega
    simp only [hg2]
    refine stp ?_; try with_reducible exact True.intro
    exact (fitK [] [1])
theorem ExamplePantsS0 {g : Int} (hg : ¬ (2 ≤ g ∧ g ≤ 3)) : ConT Try.prog 28 [.i g] (.tup [.own 0 0 0, .b false]) [.arr (.list (.int .i64)) [] true] := by
  refine conT_of hmix hTab Try.func28 rfl rfl (by kernel_rfl) (by show 1 ≤ Try.f28.ntmps; decide) ?_
  have hin : (decide (2 ≤ g ∧ g ≤ 3)) = false := decide_eq_false hg
  refine stp ?_; try with_reducible exact True.intro
  refine useT ((l1In g 2 3).toT) ?_; try with_reducible exact True.intro
  rw [hin]
  refine stp ?_; try with_reducible exact True.intro
  refine Or.inl ?_; refine stp ?_; try with_reducible exact True.intro
  exact (fitK [] [0])
theorem ExamplePantsI0 {g : Int} (hg : ¬ (2 ≤ g ∧ g ≤ 3)) : ConT Try.prog 29 [.i g] (.tup [.nil .unit, .b false]) [] := by
  refine conT_of hmix hTab Try.func29 rfl rfl (by kernel_rfl) (by show 1 ≤ Try.f29.ntmps; decide) ?_
  refine stp ?_; try with_reducible exact True.intro
  refine brT (by simp; omega) ?_
  refine stp ?_; try with_reducible exact True.intro
  refine brT (by simp; omega) ?_
  refine stp ?_; try with_reducible exact True.intro
  exact (fitK [] [])
theorem lawExamplePants (g : Int) : ConS Try.prog 7 [.i g] (.b true) := by
  refine conS_of hmix hTab Try.func7 rfl rfl (by kernel_rfl) (by show 1 ≤ Try.f7.ntmps; decide) rfl ?_
  by_cases hg : 2 ≤ g ∧ g ≤ 3
  · have hS := ExamplePantsS hg
    have hI := ExamplePantsI hg
    obtain ⟨L, hL9, hL0, ha, hasc, hall⟩ := pantsAll_facts (g := g) (by omega)
    have hpos : 0 < (pantsAll g).length := List.length_pos_of_mem ((hall _).2 ⟨0, .zero⟩)
    have hcn : Cn g L (exP g) := by
      obtain ⟨k, hk⟩ := (hall _).1 (rdS_mem hpos)
      exact hk.cn ha
    have hrl := hcn.2.len
    have hrw : ∀ r ∈ exP g, r.length ≤ 2 := fun r hr => Nat.le_of_eq (hcn.2.prs r hr)
    have htr := total_le hrw
    generalize exP g = r at *
    have htr0 := total_nonneg r
    have htr2 : total r ≤ 18 := by omega
    have hr4 : ∀ x ∈ r, (x.length : Int) ≤ 274877906944 := fun x hx => by have := hrw x hx; omega
    have hml := marksR_length 1 r
    refine stp ?_; try with_reducible exact True.intro
    refine useT (hS) ?_; try with_reducible exact True.intro
    refine useT (hI) ?_; try with_reducible exact True.intro
    refine useT ((eqIntSS r r (by omega) hr4).toT) ?_; try with_reducible exact True.intro
    refine brF (by simp) ?_
    refine stp ?_; try with_reducible exact True.intro
    refine useI [0] (markIntSS r 1 (by omega) (by omega)) ?_; try with_reducible exact True.intro
    refine useT ((heldIntSS r 1 (by omega) (by omega)).toT) ?_; try with_reducible exact True.intro
    refine brF (by simp; omega) ?_
    refine stp ?_; try with_reducible exact True.intro
    refine Br.mk (fun h9 => ?_) (fun h9 => ?_) <;> simp [-Int.ofNat_toNat] at h9
    refine stp ?_; try with_reducible exact True.intro
    refine useT (hI) ?_; try with_reducible exact True.intro
    refine useT ((eqIntSS r r (by omega) hr4).toT) ?_; try with_reducible exact True.intro
    refine brF (by simp) ?_
    refine stp ?_; try with_reducible exact True.intro
    refine useT ((heldIntSS r 1 (by omega) (by omega)).toT) ?_; try with_reducible exact True.intro
    refine brF (by simp; omega) ?_
    refine stp ?_; try with_reducible exact True.intro
    refine Br.mk (fun h11 => ?_) (fun h11 => ?_) <;> simp [-Int.ofNat_toNat] at h11
    refine stp ?_; try with_reducible exact True.intro
  · refine stp ?_; try with_reducible exact True.intro
    refine useT (ExamplePantsS0 hg) ?_; try with_reducible exact True.intro
    refine useT (ExamplePantsI0 hg) ?_; try with_reducible exact True.intro
    refine useT ((eqIntSS [] [] (by simp) (by simp)).toT) ?_; try with_reducible exact True.intro
    refine useT ((markIntSSN 1).toT) ?_; try with_reducible exact True.intro
    refine useT ((heldIntSSN 1).toT) ?_; try with_reducible exact True.intro
    refine useT (ExamplePantsI0 hg) ?_; try with_reducible exact True.intro
    refine useT ((eqIntSS [] [] (by simp) (by simp)).toT) ?_; try with_reducible exact True.intro
    refine useT ((heldIntSSN 1).toT) ?_; try with_reducible exact True.intro
end Go.Proofs.YtlglchbkenaekaaTv
end
section
open Go Go.Proofs.YtlglchbkenaekaaVe Go.Proofs.YtlglchbkenaekaaTv Go.Proofs
namespace Go.Proofs.YtlglchbkenaekaaTv
set_option maxRecDepth 8000
set_option maxHeartbeats 2000000
theorem szR_le : ∀ (l : List (List Int)) (lf : Int), 0 ≤ lf → szR l lf ≤ lf
  | [], lf, _ => Int.le_refl _
  | r :: l, lf, h => by
    unfold szR
    split
    · omega
    · rename_i h1
      have h2 : szS r lf ≤ lf := by unfold szS; split <;> omega
      have := szR_le l (szS r lf) (by omega)
      omega
theorem szSS_le2 {ll : List (List Int)} {left : Int} (h : 0 ≤ left) : szSS ll left ≤ left := by
  unfold szSS
  split
  · omega
  · have := szR_le ll (left - ll.length) (by omega)
    omega
open Classical in
noncomputable def distP (g : Int) (a t : Tbl) : Int := if h : ∃ m, Dist g a m t then (h.choose : Int) else -1
theorem distP_eq {g : Int} {a t : Tbl} {m : Nat} (h : Dist g a m t) : distP g a t = m := by
  have hx : ∃ m, Dist g a m t := ⟨m, h⟩
  unfold distP
  rw [dif_pos hx, hx.choose_spec.uniq h]
theorem distP_none {g : Int} {a t : Tbl} (h : ∀ m, ¬ Dist g a m t) : distP g a t = -1 := by
  unfold distP
  rw [dif_neg fun ⟨m, hm⟩ => h m hm]
theorem dist_back {g : Int} {a : Tbl} : ∀ (e s : Nat) (t : Tbl), Dist g a (s + e) t → ∃ q, Dist g a s q
  | 0, s, t, h => ⟨t, h⟩
  | e + 1, s, t, h => by
    obtain ⟨q, hq, _⟩ := dist_pred (k := s + e) h
    exact dist_back e s q hq
theorem PantsDistanceS {g : Int} {ll lm : Tbl} (hll : (ll.length : Int) ≤ 1048576) (hlm : (lm.length : Int) ≤ 1048576) (h : isPants g ll = true) (h' : isPants g lm = true) : ConS Try.prog 35 [.i g, .ill ll, .ill lm] (.i (distP g (leastP g ll) (leastP g lm))) := by
  refine conS_of hmix hTab Try.func35 rfl rfl (by kernel_rfl) (by show 3 ≤ Try.f35.ntmps; decide) rfl ?_
  obtain ⟨n, hn, n2, n6, hg, hlen, hl9, hok⟩ := pants_facts h'
  have hle := l19Least g n hn n6 lm hl9 (fun j hj => ends_of hok j hj)
  have hnb : leastF lm (allP n) (allP n).length = leastP g lm := by rw [leastP, show (2 * g - 2).toNat = n by omega]
  rw [hnb] at hle
  have hre := l19Reach h
  have hcl := leastP_cn h
  have hcm := leastP_cn h'
  have hml := hcm.2.len
  rw [← hml] at hle
  obtain ⟨hb, hm⟩ := reachA_facts hcl
  have hB := bigB_le
  generalize leastP g ll = a at *
  generalize leastP g lm = t at *
  generalize reachA g a = p at *
  have hsz := hb.size
  have hpl := hb.len
  refine stp ?_; try with_reducible exact True.intro
  refine useT ((IsPantsS g ll hll).toT) ?_; try with_reducible exact True.intro
  refine brF (by rw [h]; rfl) ?_
  refine stp ?_; try with_reducible exact True.intro
  refine useT ((IsPantsS g lm hlm).toT) ?_; try with_reducible exact True.intro
  refine brF (by rw [h']; rfl) ?_
  refine stp ?_; try with_reducible exact True.intro
  refine useT (hre) ?_; try with_reducible exact True.intro
  refine useT (hle) ?_; try with_reducible exact True.intro
  refine ⟨Nat, fun i => i ≤ p.1.length ∧ ∀ j : Nat, j < i → rdS p.1 j ≠ t, fun i => p.1.length - i, fun i => [(7, .own 0 0 p.1.length), (8, .own 1 0 p.2.length), (9, .own 2 0 (List.length t)), (10, .i i)], fun i => [.arr (.list (.list (.int .i64))) p.1 false, .arr (.int .i64) p.2 true, .frz (.list (.int .i64)) t], ⟨0, (fitK [] [0, 1, 2]), by simp⟩, fun i ⟨hi, hno⟩ => ?_⟩
  dsimp only at hi hno ⊢
  refine stp ?_; try with_reducible exact True.intro
  refine Br.mk (fun c1 => ?_) (fun c1 => ?_) <;> simp [-Int.ofNat_toNat] at c1
  · have hci := hb.cn _ (rdS_mem c1)
    have hsm := l11Same (rdS p.1 i) t (by rw [hci.2.len]; omega) fun r hr => by rw [hci.2.prs r hr]; omega
    refine stp ?_; try with_reducible exact True.intro
    refine useT (hsm.toT) ?_; try with_reducible exact True.intro
    refine Br.mk (fun c2 => ?_) (fun c2 => ?_) <;> simp [-Int.ofNat_toNat] at c2
    · have hd := distP_eq (hb.dist i c1).2.2
      have h0 := (hb.dist i c1).1
      rw [c2] at hd
      refine stp ?_; try with_reducible exact True.intro
      rw [hd]
      show V.i (rd p.2 i) = _
      rw [show (((rd p.2 i).toNat : Nat) : Int) = rd p.2 i by omega]
    · refine stp ?_; try with_reducible exact True.intro
      refine ⟨i + 1, (fitK [] [0, 1, 2]), ⟨c1, fun j hj => ?_⟩, by first | ((try dsimp only); omega) | (simp; omega)⟩
      by_cases e : j = i
      · rw [e]; exact c2
      · exact hno j (by omega)
  · obtain rfl : i = p.1.length := by omega
    have hd := distP_none (g := g) (a := a) (t := t) fun m hm2 => by
      obtain ⟨j, hj, e⟩ := mem_rdS ((hm t).2 ⟨m, hm2.1⟩)
      exact hno j hj e
    refine stp ?_; try with_reducible exact True.intro
    rw [hd]
theorem PantsDistanceS0 {g : Int} {ll lm : Tbl} (hll : (ll.length : Int) ≤ 1048576) (hlm : (lm.length : Int) ≤ 1048576) (h : ¬ (isPants g ll = true ∧ isPants g lm = true)) : ConS Try.prog 35 [.i g, .ill ll, .ill lm] (.i (-1)) := by
  refine conS_of hmix hTab Try.func35 rfl rfl (by kernel_rfl) (by show 3 ≤ Try.f35.ntmps; decide) rfl ?_
  refine stp ?_; try with_reducible exact True.intro
  refine useT ((IsPantsS g ll hll).toT) ?_; try with_reducible exact True.intro
  cases h1 : isPants g ll with
  | false =>
    refine brT rfl ?_
    refine stp ?_; try with_reducible exact True.intro
  | true =>
    have h2 : isPants g lm = false := by
      cases h3 : isPants g lm with
      | false => rfl
      | true => exact absurd ⟨h1, h3⟩ h
    refine brF rfl ?_
    refine stp ?_; try with_reducible exact True.intro
    refine useT ((IsPantsS g lm hlm).toT) ?_; try with_reducible exact True.intro
    refine brT (by rw [h2]; rfl) ?_
    refine stp ?_; try with_reducible exact True.intro
theorem PantsDistanceI0 {g : Int} {ll lm : Tbl} (hll : (ll.length : Int) ≤ 1048576) (hlm : (lm.length : Int) ≤ 1048576) (h : ¬ (isPants g ll = true ∧ isPants g lm = true)) : ConS Try.prog 36 [.i g, .ill ll, .ill lm] (.i (-1)) := by
  refine conS_of hmix hTab Try.func36 rfl rfl (by kernel_rfl) (by show 3 ≤ Try.f36.ntmps; decide) rfl ?_
  refine stp ?_; try with_reducible exact True.intro
  refine useT ((IsPantsI g ll hll).toT) ?_; try with_reducible exact True.intro
  cases h1 : isPants g ll with
  | false =>
    refine brT rfl ?_
    refine stp ?_; try with_reducible exact True.intro
  | true =>
    have h2 : isPants g lm = false := by
      cases h3 : isPants g lm with
      | false => rfl
      | true => exact absurd ⟨h1, h3⟩ h
    refine brF rfl ?_
    refine stp ?_; try with_reducible exact True.intro
    refine useT ((IsPantsI g lm hlm).toT) ?_; try with_reducible exact True.intro
    refine brT (by rw [h2]; rfl) ?_
    refine stp ?_; try with_reducible exact True.intro
/-- The search by levels, after s steps. -/
structure Lev (g : Int) (a t : Tbl) (s : Nat) (seen now : List Tbl) : Prop where
  asc : Asc seen
  sn : ∀ u, u ∈ seen ↔ ∃ m, m ≤ s ∧ Stp g a m u
  nw : ∀ u, u ∈ now ↔ Dist g a s u
  far : ∀ m, m < s → ¬ Dist g a m t
  len : now.length ≤ seen.length
  lev : s + min now.length 1 ≤ seen.length
theorem Lev.size {g : Int} {L : Nat} {a t : Tbl} {s : Nat} {seen now : List Tbl} (h : Lev g a t s seen now) (ha : Cn g L a) : (∀ u ∈ seen, Cn g L u) ∧ seen.length ≤ bigB := by
  have h1 : ∀ u ∈ seen, Cn g L u := fun u hu => by
    obtain ⟨m, _, hm⟩ := (h.sn u).1 hu
    exact hm.cn ha
  exact ⟨h1, pants_bound h.asc.nodup fun u hu => (h1 u hu).1⟩
theorem Lev.init (g : Int) (a t : Tbl) : Lev g a t 0 [a] [a] where
  asc := by simp [Asc]
  sn := fun u => by
    rw [List.mem_singleton]
    constructor
    · rintro rfl; exact ⟨0, Nat.le_refl _, .zero⟩
    · rintro ⟨m, hm, hs⟩
      obtain rfl : m = 0 := by omega
      cases hs; rfl
  nw := fun u => by
    rw [List.mem_singleton]
    constructor
    · rintro rfl; exact ⟨.zero, fun m hm => by omega⟩
    · rintro ⟨hs, _⟩; cases hs; rfl
  far := fun m hm => by omega
  len := Nat.le_refl _
  lev := Nat.le_refl _
/-- While a level is worked on: the first i of it, and the first j neighbours of the next one. -/
structure Mid (g : Int) (a t : Tbl) (s : Nat) (seen now : List Tbl) (i : Nat) (near : List Tbl) (j : Nat) (seen2 thn : List Tbl) : Prop where
  asc : Asc seen2
  sn : ∀ u, u ∈ seen2 ↔ u ∈ seen ∨ (∃ k : Nat, k < i ∧ u ∈ fromP g (rdS now k)) ∨ ∃ k : Nat, k < j ∧ u = rdS near k
  nw : ∀ u, u ∈ thn ↔ ((∃ k : Nat, k < i ∧ u ∈ fromP g (rdS now k)) ∨ ∃ k : Nat, k < j ∧ u = rdS near k) ∧ u ∉ seen
  len : seen.length + thn.length ≤ seen2.length
  no : ∀ k : Nat, k < i → rdS now k ≠ t
theorem Mid.next {g : Int} {a t : Tbl} {s : Nat} {seen now near : List Tbl} {i j : Nat} {seen2 thn : List Tbl} (h : Mid g a t s seen now i near j seen2 thn) (hn : near = fromP g (rdS now i)) (hj : j = near.length) (hne : rdS now i ≠ t) (near2 : List Tbl) : Mid g a t s seen now (i + 1) near2 0 seen2 thn := by
  have key : ∀ u, ((∃ k : Nat, k < i ∧ u ∈ fromP g (rdS now k)) ∨ ∃ k : Nat, k < j ∧ u = rdS near k) ↔ ((∃ k : Nat, k < i + 1 ∧ u ∈ fromP g (rdS now k)) ∨ ∃ k : Nat, k < 0 ∧ u = rdS near2 k) := fun u => by
    constructor
    · rintro (⟨k, hk, hu⟩ | ⟨k, hk, rfl⟩)
      · exact .inl ⟨k, by omega, hu⟩
      · exact .inl ⟨i, by omega, by rw [← hn]; exact rdS_mem (by omega)⟩
    · rintro (⟨k, hk, hu⟩ | ⟨k, hk, _⟩)
      · by_cases e : k = i
        · subst e
          rw [← hn] at hu
          obtain ⟨m, hm, e⟩ := mem_rdS hu
          exact .inr ⟨m, by omega, e.symm⟩
        · exact .inl ⟨k, by omega, hu⟩
      · omega
  exact ⟨h.asc, fun u => by rw [h.sn, key], fun u => by rw [h.nw, key], h.len, fun k hk => by
    by_cases e : k = i
    · rw [e]; exact hne
    · exact h.no k (by omega)⟩
theorem Mid.start {g : Int} {L : Nat} {a t : Tbl} {s : Nat} {seen now : List Tbl} (h : Lev g a t s seen now) : Mid g a t s seen now 0 [] 0 seen [] :=
  ⟨h.asc, fun u => ⟨.inl, fun c => by
    rcases c with c | ⟨k, hk, _⟩ | ⟨k, hk, _⟩
    · exact c
    · omega
    · omega⟩, fun u => ⟨fun c => (by cases c), fun c => by
    rcases c.1 with ⟨k, hk, _⟩ | ⟨k, hk, _⟩ <;> omega⟩, by simp, fun k hk => by omega⟩
theorem Mid.near0 {g : Int} {a t : Tbl} {s : Nat} {seen now near near2 : List Tbl} {i : Nat} {seen2 thn : List Tbl} (h : Mid g a t s seen now i near 0 seen2 thn) : Mid g a t s seen now i near2 0 seen2 thn := by
  have key : ∀ u, (∃ k : Nat, k < 0 ∧ u = rdS near k) ↔ ∃ k : Nat, k < 0 ∧ u = rdS near2 k := fun u => ⟨fun ⟨k, hk, _⟩ => by omega, fun ⟨k, hk, _⟩ => by omega⟩
  exact ⟨h.asc, fun u => by rw [h.sn, key], fun u => by rw [h.nw, key], h.len, h.no⟩
theorem Mid.end {g : Int} {a t : Tbl} {s : Nat} {seen now near : List Tbl} {seen2 thn : List Tbl} (h : Mid g a t s seen now now.length near 0 seen2 thn) (hl : Lev g a t s seen now) (hpos : 0 < now.length) : Lev g a t (s + 1) seen2 thn := by
  have hP : ∀ u, ((∃ k : Nat, k < now.length ∧ u ∈ fromP g (rdS now k)) ∨ ∃ k : Nat, k < 0 ∧ u = rdS near k) ↔ ∃ q, Dist g a s q ∧ u ∈ fromP g q := fun u => by
    constructor
    · rintro (⟨k, hk, hu⟩ | ⟨k, hk, _⟩)
      · exact ⟨_, (hl.nw _).1 (rdS_mem hk), hu⟩
      · omega
    · rintro ⟨q, hq, hu⟩
      obtain ⟨k, hk, rfl⟩ := mem_rdS ((hl.nw q).2 hq)
      exact .inl ⟨k, hk, hu⟩
  have hsn : ∀ u, u ∈ seen2 ↔ ∃ m, m ≤ s + 1 ∧ Stp g a m u := fun u => by
    rw [h.sn, hP, hl.sn]
    constructor
    · rintro (⟨m, hm, hs⟩ | ⟨q, hq, hu⟩)
      · exact ⟨m, by omega, hs⟩
      · exact ⟨s + 1, Nat.le_refl _, .succ hq.1 hu⟩
    · rintro ⟨m, hm, hs⟩
      by_cases c : ∃ k, k ≤ s ∧ Stp g a k u
      · exact .inl c
      · have : m = s + 1 := by
          rcases Nat.lt_or_ge s m with d | d
          · omega
          · exact absurd ⟨m, d, hs⟩ c
        subst this
        obtain ⟨q, h1, h2⟩ := hs.pred
        refine .inr ⟨q, ⟨h1, fun k hk hs2 => c ⟨k + 1, by omega, .succ hs2 h2⟩⟩, h2⟩
  refine ⟨h.asc, hsn, fun u => ?_, fun m hm hd => ?_, by have := h.len; omega, ?_⟩
  · rw [h.nw, hP, hl.sn]
    constructor
    · rintro ⟨⟨q, hq, hu⟩, hn⟩
      exact ⟨.succ hq.1 hu, fun m hm hs => hn ⟨m, by omega, hs⟩⟩
    · intro hd
      obtain ⟨q, hq, hu⟩ := dist_pred hd
      exact ⟨⟨q, hq, hu⟩, fun ⟨m, hm, hs⟩ => hd.2 m (by omega) hs⟩
  · by_cases e : m = s
    · subst e
      obtain ⟨k, hk, e⟩ := mem_rdS ((hl.nw t).2 hd)
      exact h.no k hk e
    · exact hl.far m (by omega) hd
  · have := hl.lev; have := h.len
    omega
theorem Lev.over {g : Int} {a t : Tbl} {s : Nat} {seen : List Tbl} (h : Lev g a t s seen []) : distP g a t = -1 := distP_none fun m hm => by
  rcases Nat.lt_or_ge m s with c | c
  · exact h.far m c hm
  · obtain ⟨q, hq⟩ := dist_back (m - s) s t (by rw [show s + (m - s) = m by omega]; exact hm)
    cases (h.nw q).2 hq
end Go.Proofs.YtlglchbkenaekaaTv
end
section
open Go Go.Proofs.YtlglchbkenaekaaVe Go.Proofs.YtlglchbkenaekaaTv Go.Proofs
namespace Go.Proofs.YtlglchbkenaekaaTv
set_option maxRecDepth 8000
set_option maxHeartbeats 2000000
abbrev T3 (S : List Tbl) : Obj := .arr (.list (.list (.int .i64))) S false
theorem PantsDistanceI {g : Int} {ll lm : Tbl} (hll : (ll.length : Int) ≤ 1048576) (hlm : (lm.length : Int) ≤ 1048576) (h : isPants g ll = true) (h' : isPants g lm = true) : ConS Try.prog 36 [.i g, .ill ll, .ill lm] (.i (distP g (leastP g ll) (leastP g lm))) := by
  refine conS_of hmix hTab Try.func36 rfl rfl (by kernel_rfl) (by show 3 ≤ Try.f36.ntmps; decide) rfl ?_
  obtain ⟨n, hn, n2, n6, hg, hlen, hl9, hok⟩ := pants_facts h
  obtain ⟨_, _, _, _, _, hlen', _, _⟩ := pants_facts h'
  have hlt := LeastPantsI hlm h'
  have hla := LeastPantsI hll h
  change ConT _ _ _ _ [.arr (.list (.int .i64)) (leastP g lm) true] at hlt
  have ha := leastP_cn h
  have ht := leastP_cn h'
  rw [show lm.length = ll.length by omega] at ht hlt
  rw [← ht.2.len] at hlt
  rw [← ha.2.len] at hla
  have hB := bigB_le
  have hL0 : 0 < ll.length := by omega
  generalize leastP g ll = a at *
  generalize leastP g lm = t at *
  obtain ⟨L, hLe⟩ : ∃ L, L = ll.length := ⟨_, rfl⟩
  rw [← hLe] at ha ht hL0 hl9
  have htl := ht.2.len
  refine stp ?_; try with_reducible exact True.intro
  refine useT ((IsPantsI g ll hll).toT) ?_; try with_reducible exact True.intro
  refine brF (by rw [h]; rfl) ?_
  refine stp ?_; try with_reducible exact True.intro
  refine useT ((IsPantsI g lm hlm).toT) ?_; try with_reducible exact True.intro
  refine brF (by rw [h']; rfl) ?_
  refine stp ?_; try with_reducible exact True.intro
  refine useT (hlt) ?_; try with_reducible exact True.intro
  refine useT (hla) ?_; try with_reducible exact True.intro
  refine Or.inr ?_; refine stp ?_; try with_reducible exact True.intro
  refine Or.inr ?_; refine stp ?_; try with_reducible exact True.intro
  refine ⟨Nat × List Tbl × List Tbl, fun s => Lev g a t s.1 s.2.1 s.2.2, fun s => 2 * (bigB - s.2.1.length) + min s.2.2.length 1, fun s => [(0, .i g), (7, .own 0 0 (List.length t)), (8, .own 1 0 s.2.1.length), (9, .own 2 0 s.2.2.length), (10, .i s.1)], fun s => [.arr (.list (.int .i64)) t true, T3 s.2.1, T3 s.2.2], ⟨(0, [a], [a]), (fitK [] [0, 2, 3]), Lev.init g a t⟩, fun ⟨s, seen, now⟩ hlev => ?_⟩
  dsimp only at hlev ⊢
  obtain ⟨hscn, hssz⟩ := hlev.size ha
  have hslen := hlev.len
  have hslev := hlev.lev
  refine stp ?_; try with_reducible exact True.intro
  refine Br.mk (fun c1 => ?_) (fun c1 => ?_) <;> simp [-Int.ofNat_toNat] at c1
  · have hpos : 0 < now.length := by first | omega | exact List.length_pos_iff.2 c1
    refine stp ?_; try with_reducible exact True.intro
    refine Or.inr ?_; refine stp ?_; try with_reducible exact True.intro
    refine ⟨Nat × List Tbl × List Tbl, fun s2 => s2.1 ≤ now.length ∧ Mid g a t s seen now s2.1 [] 0 s2.2.1 s2.2.2, fun s2 => now.length - s2.1, fun s2 => [(0, .i g), (7, .own 0 0 (List.length t)), (8, .own 1 0 s2.2.1.length), (10, .i s), (11, .own 3 0 s2.2.2.length), (45, .own 2 0 now.length), (46, .i now.length), (47, .i s2.1)], fun s2 => [.arr (.list (.int .i64)) t true, T3 s2.2.1, T3 now, T3 s2.2.2], ⟨(0, seen, []), (fitK [] [0, 1, 2, 3]), Nat.zero_le _, Mid.start (L := L) hlev⟩, fun ⟨i, seen2, thn⟩ ⟨hi, hmid⟩ => ?_⟩
    dsimp only at hi hmid ⊢
    refine stp ?_; try with_reducible exact True.intro
    refine Br.mk (fun c2 => ?_) (fun c2 => ?_) <;> simp [-Int.ofNat_toNat] at c2
    · have hxd := (hlev.nw _).1 (rdS_mem c2)
      have hxc : Cn g L (rdS now i) := hxd.1.cn ha
      have hcmp := compareRows (rdS now i) t (by rw [hxc.2.len]; omega) (by rw [hxc.2.len]; exact htl) hxc.2.small ht.2.small
      have heq := hxc.2.eq_iff ht.2
      have hfr := PantsFromI (g := g) (ll := rdS now i) (by rw [hxc.2.len]; omega) hxc.1
      obtain ⟨hfc, hf18⟩ := fromP_facts hxc
      have hrn : ∀ u ∈ fromP g (rdS now i), Stp g a (s + 1) u := fun u hu => .succ hxd.1 hu
      refine stp ?_; try with_reducible exact True.intro
      refine useT (hcmp.toT) ?_; try with_reducible exact True.intro
      refine Br.mk (fun c3 => ?_) (fun c3 => ?_) <;> simp [-Int.ofNat_toNat] at c3
      · have hd := distP_eq hxd
        rw [heq.1 c3] at hd
        refine stp ?_; try with_reducible exact True.intro
        rw [hd]
      · have hne : rdS now i ≠ t := fun e => c3 (heq.2 e)
        have hmnext := fun seen3 thn3 j h1 h2 h3 => Mid.next (g := g) (a := a) (t := t) (s := s) (seen := seen) (now := now) (near := fromP g (rdS now i)) (i := i) (j := j) (seen2 := seen3) (thn := thn3) h1 h2 h3 hne []
        have hm0 := hmid.near0 (near2 := fromP g (rdS now i))
        generalize hnear : fromP g (rdS now i) = near at *
        refine stp ?_; try with_reducible exact True.intro
        refine useT (hfr) ?_; try with_reducible exact True.intro
        refine ⟨Nat × List Tbl × List Tbl, fun s3 => s3.1 ≤ near.length ∧ Mid g a t s seen now i near s3.1 s3.2.1 s3.2.2, fun s3 => near.length - s3.1, fun s3 => [(0, .i g), (7, .own 0 0 (List.length t)), (8, .own 1 0 s3.2.1.length), (10, .i s), (11, .own 3 0 s3.2.2.length), (45, .own 2 0 now.length), (46, .i now.length), (47, .i i), (58, .own 4 0 near.length), (59, .i near.length), (60, .i s3.1)], fun s3 => [.arr (.list (.int .i64)) t true, T3 s3.2.1, T3 now, T3 s3.2.2, .frz (.list (.list (.int .i64))) near], ⟨(0, seen2, thn), (fitK [4] [0, 1, 2, 3, 4]), Nat.zero_le _, hm0⟩, fun ⟨j, seen3, thn3⟩ ⟨hj, hm3⟩ => ?_⟩
        dsimp only at hj hm3 ⊢
        have hcn3 : ∀ u ∈ seen3, Cn g L u := fun u hu => by
          rcases (hm3.sn u).1 hu with h1 | ⟨k, hk, h1⟩ | ⟨k, hk, rfl⟩
          · exact hscn u h1
          · exact (fromP_facts (((hlev.nw _).1 (rdS_mem (show k < now.length by omega))).1.cn ha)).1 _ h1
          · exact hfc _ (rdS_mem (by omega))
        have hsz3 := pants_bound (g := g) hm3.asc.nodup fun u hu => (hcn3 u hu).1
        have hl3 := hm3.len
        refine stp ?_; try with_reducible exact True.intro
        refine Br.mk (fun c4 => ?_) (fun c4 => ?_) <;> simp [-Int.ofNat_toNat] at c4
        · replace c4 : j < near.length := by omega
          have hyc := hfc _ (rdS_mem c4)
          obtain ⟨a1, a2, a3⟩ := add_facts hyc.2 hm3.asc fun u hu => (hcn3 u hu).2
          have had := pantsSetV L hl9 seen3 (rdS near j) (fun u hu => (hcn3 u hu).2) hyc.2 (by omega)
          have hal := addT_len seen3 (rdS near j)
          refine stp ?_; try with_reducible exact True.intro
          cases hh : hasT seen3 (rdS near j) with
          | true =>
            simp only [hh, if_true] at had
            refine useI [1] (had) ?_; try with_reducible exact True.intro
            have hin := a1.1 hh
            refine ⟨(j + 1, seen3, thn3), (fitK [] [0, 1, 2, 3, 4]), ⟨c4, hm3.asc, fun u => ?_, fun u => ?_, hm3.len, hm3.no⟩, by first | ((try dsimp only); omega) | (simp; omega)⟩
            · rw [hm3.sn]
              constructor
              · rintro (h1 | h1 | ⟨k, hk, h1⟩)
                · exact .inl h1
                · exact .inr (.inl h1)
                · exact .inr (.inr ⟨k, by omega, h1⟩)
              · rintro (h1 | h1 | ⟨k, hk, h1⟩)
                · exact .inl h1
                · exact .inr (.inl h1)
                · by_cases e : k = j
                  · rw [h1, e]; exact (hm3.sn _).1 hin
                  · exact .inr (.inr ⟨k, by omega, h1⟩)
            · rw [hm3.nw]
              constructor
              · rintro ⟨h1 | ⟨k, hk, h1⟩, h2⟩
                · exact ⟨.inl h1, h2⟩
                · exact ⟨.inr ⟨k, by omega, h1⟩, h2⟩
              · rintro ⟨h1 | ⟨k, hk, h1⟩, h2⟩
                · exact ⟨.inl h1, h2⟩
                · by_cases e : k = j
                  · rw [h1, e] at h2 ⊢
                    exact ⟨((hm3.sn _).1 hin).resolve_left h2, h2⟩
                  · exact ⟨.inr ⟨k, by omega, h1⟩, h2⟩
          | false =>
            simp only [hh, Bool.false_eq_true, if_false] at had hal
            refine useI [1] (had) ?_; try with_reducible exact True.intro
            refine Or.inr ?_; refine stp ?_; try with_reducible exact True.intro
            refine Or.inr ?_; refine stp ?_; try with_reducible exact True.intro
            have hnin : ¬ rdS near j ∈ seen3 := fun c => by rw [a1.2 c] at hh; cases hh
            have hns : ¬ rdS near j ∈ seen := fun c => hnin ((hm3.sn _).2 (.inl c))
            refine ⟨(j + 1, addT seen3 (rdS near j), thn3 ++ [rdS near j]), ⟨.frz [], [0, 5, 2, 7, 4], ⟨rfl, rfl, ?_, rfl, ?_, rfl, rfl, rfl, rfl, rfl, rfl, trivial⟩, ⟨rfl, rfl, rfl, ?_, rfl, trivial⟩, by decide, rfl, rfl, rfl⟩, ⟨c4, a2, fun u => ?_, fun u => ?_, ?_, hm3.no⟩, by first | ((try dsimp only); omega) | (simp; omega)⟩
            · show V.own 5 0 _ = V.own 5 0 _
              rw [hal]
            · show V.own 7 0 _ = V.own 7 0 _
              congr 1
              simp
            · refine congrArg (fun x => some (Obj.arr (.list (.list (.int .i64))) x false)) ?_
              simp
              rfl
            · rw [a3, hm3.sn]
              constructor
              · rintro ((h1 | h1 | ⟨k, hk, h1⟩) | h1)
                · exact .inl h1
                · exact .inr (.inl h1)
                · exact .inr (.inr ⟨k, by omega, h1⟩)
                · exact .inr (.inr ⟨j, by omega, h1⟩)
              · rintro (h1 | h1 | ⟨k, hk, h1⟩)
                · exact .inl (.inl h1)
                · exact .inl (.inr (.inl h1))
                · by_cases e : k = j
                  · exact .inr (by rw [h1, e])
                  · exact .inl (.inr (.inr ⟨k, by omega, h1⟩))
            · rw [List.mem_append, List.mem_singleton, hm3.nw]
              constructor
              · rintro (⟨h1 | ⟨k, hk, h1⟩, h2⟩ | h1)
                · exact ⟨.inl h1, h2⟩
                · exact ⟨.inr ⟨k, by omega, h1⟩, h2⟩
                · exact ⟨.inr ⟨j, by omega, h1⟩, by rw [h1]; exact hns⟩
              · rintro ⟨h1 | ⟨k, hk, h1⟩, h2⟩
                · exact .inl ⟨.inl h1, h2⟩
                · by_cases e : k = j
                  · exact .inr (by rw [h1, e])
                  · exact .inl ⟨.inr ⟨k, by omega, h1⟩, h2⟩
            · rw [hal]; simp; omega
        · obtain rfl : j = near.length := by omega
          refine stp ?_; try with_reducible exact True.intro
          exact ⟨(i + 1, seen3, thn3), (fitK [] [0, 1, 2, 3]), ⟨c2, hmnext seen3 thn3 _ hm3 rfl rfl⟩, by first | ((try dsimp only); omega) | (simp; omega)⟩
    · obtain rfl : i = now.length := by omega
      have hnl := hmid.end hlev hpos
      have := hmid.len
      refine stp ?_; try with_reducible exact True.intro
      refine ⟨(s + 1, seen2, thn), (fitK [] [0, 1, 3]), hnl, ?_⟩
      dsimp only
      obtain ⟨_, hsz3⟩ := hnl.size ha
      omega
  · have hn0 : now = [] := by first | exact c1 | exact List.length_eq_zero_iff.1 (by omega)
    subst hn0
    rw [hlev.over]
    refine stp ?_; try with_reducible exact True.intro
theorem lawPantsDistance (g : Int) (ll lm : Tbl) (hl : (ll.length : Int) ≤ 140737488355328) (hr : ∀ r ∈ ll, (r.length : Int) ≤ 140737488355328) (hl' : (lm.length : Int) ≤ 140737488355328) (hr' : ∀ r ∈ lm, (r.length : Int) ≤ 140737488355328) : ConS Try.prog 9 [.i g, .ill ll, .ill lm] (.b true) := by
  refine conS_of hmix hTab Try.func9 rfl rfl (by kernel_rfl) (by show 3 ≤ Try.f9.ntmps; decide) rfl ?_
  refine stp ?_; try with_reducible exact True.intro
  refine useT ((szIntSS ll 1048576 (by decide) hl hr).toT) ?_; try with_reducible exact True.intro
  refine Br.mk (fun h1 => ?_) (fun h1 => ?_) <;> simp [-Int.ofNat_toNat] at h1
  · refine stp ?_; try with_reducible exact True.intro
  · obtain ⟨h2, h3⟩ := szSS_facts (Int.le_refl _) h1
    have h4 : ∀ r ∈ ll, (r.length : Int) ≤ 274877906944 := fun r hr => by have := h3 r hr; omega
    have hsl := szSS_le2 (ll := ll) (left := 1048576) (by decide)
    refine stp ?_; try with_reducible exact True.intro
    refine useT ((szIntSS lm (szSS ll 1048576) ⟨h1, hsl⟩ hl' hr').toT) ?_; try with_reducible exact True.intro
    refine Br.mk (fun h5 => ?_) (fun h5 => ?_) <;> simp [-Int.ofNat_toNat] at h5
    · refine stp ?_; try with_reducible exact True.intro
    · obtain ⟨h6, h7⟩ := szSS_facts hsl h5
      have h8 : ∀ r ∈ lm, (r.length : Int) ≤ 274877906944 := fun r hr => by have := h7 r hr; omega
      obtain ⟨d, hS, hI⟩ : ∃ d : Int, ConS Try.prog 35 [.i g, .ill ll, .ill lm] (.i d) ∧ ConS Try.prog 36 [.i g, .ill ll, .ill lm] (.i d) := by
        by_cases hc : isPants g ll = true ∧ isPants g lm = true
        · exact ⟨_, PantsDistanceS h2 h6 hc.1 hc.2, PantsDistanceI h2 h6 hc.1 hc.2⟩
        · exact ⟨_, PantsDistanceS0 h2 h6 hc, PantsDistanceI0 h2 h6 hc⟩
      refine stp ?_; try with_reducible exact True.intro
      refine useT (toIntSS ll h2 h3) ?_; try with_reducible exact True.intro
      refine useT (toIntSS lm h6 h7) ?_; try with_reducible exact True.intro
      refine useT (hS.toT) ?_; try with_reducible exact True.intro
      refine useT (toIntSS ll h2 h3) ?_; try with_reducible exact True.intro
      refine useT (toIntSS lm h6 h7) ?_; try with_reducible exact True.intro
      refine useT (hI.toT) ?_; try with_reducible exact True.intro
      refine Br.mk (fun h9 => ?_) (fun h9 => ?_) <;> simp [-Int.ofNat_toNat] at h9
      refine stp ?_; try with_reducible exact True.intro
      refine useT (toIntSS ll h2 h3) ?_; try with_reducible exact True.intro
      refine useT ((eqIntSS ll ll (by omega) h4).toT) ?_; try with_reducible exact True.intro
      refine Br.mk (fun h10 => ?_) (fun h10 => ?_) <;> simp [-Int.ofNat_toNat] at h10
      refine stp ?_; try with_reducible exact True.intro
      refine useT (toIntSS lm h6 h7) ?_; try with_reducible exact True.intro
      refine useT ((eqIntSS lm lm (by omega) h8).toT) ?_; try with_reducible exact True.intro
      refine Br.mk (fun h11 => ?_) (fun h11 => ?_) <;> simp [-Int.ofNat_toNat] at h11
      refine stp ?_; try with_reducible exact True.intro
end Go.Proofs.YtlglchbkenaekaaTv
end
