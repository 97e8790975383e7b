/- What functions of the program give: each contract holds for all arguments that its own sentence names. -/
import Derived.Test.YtldjlonofclelaaFnFnExamples2
set_option linter.unusedVariables false
set_option linter.unusedSimpArgs false
section
open Go Go.Proofs.YtldjlonofclelaaVe Go.Proofs.YtldjlonofclelaaTv Go.Proofs
namespace Go.Proofs.YtldjlonofclelaaTv
set_option maxRecDepth 8000
set_option maxHeartbeats 2000000
def insK (k : Int) (p : List Int) (j : Nat) : List Int := p.take j ++ [k] ++ p.drop j
def rowK (k : Int) (p : List Int) (j : Nat) : List (List Int) := (List.range j).map (insK k p)
def allK (k : Int) (out : List (List Int)) (i : Nat) : List (List Int) := (out.take i).flatMap fun p => rowK k p (p.length + 1)
/-- All orders of 0, .., n - 1. -/
def allP : Nat → List (List Int)
  | 0 => [[]]
  | k + 1 => allK k (allP k) (allP k).length
theorem rowK_succ (k : Int) (p : List Int) (j : Nat) : rowK k p (j + 1) = rowK k p j ++ [insK k p j] := by simp [rowK, List.range_succ]
theorem allK_succ {k : Int} {out : List (List Int)} {i : Nat} (h : i < out.length) : allK k out (i + 1) = allK k out i ++ rowK k (rdR out i) ((rdR out i).length + 1) := by
  unfold allK
  rw [take_succR h, List.flatMap_append]
  simp
theorem allK_len {k : Int} {n : Nat} {out : List (List Int)} (h : ∀ r ∈ out, r.length = n) : ∀ i, i ≤ out.length → (allK k out i).length = i * (n + 1)
  | 0, _ => by simp [allK]
  | i + 1, hi => by
    rw [allK_succ (show i < out.length from hi), List.length_append, allK_len h i (by omega)]
    have : (rdR out i).length = n := h _ (by simp [rdR, show i < out.length from hi])
    rw [this]
    simp [rowK, Nat.succ_mul]
theorem allP_facts : ∀ n, (∀ r ∈ allP n, r.length = n) ∧ (n ≤ 6 → (allP n).length ≤ 720 ∧ 1 ≤ (allP n).length)
  | 0 => by simp [allP]
  | n + 1 => by
    obtain ⟨h1, h2⟩ := allP_facts n
    refine ⟨fun r hr => ?_, fun h => ?_⟩
    · simp only [allP, allK, List.mem_flatMap, rowK, List.mem_map] at hr
      obtain ⟨p, hp, j, hj, rfl⟩ := hr
      have := h1 p (List.mem_of_mem_take hp)
      simp only [List.mem_range] at hj
      simp [insK]; omega
    · have key : ∀ m, m ≤ 6 → (allP m).length ≤ 720 ∧ 1 ≤ (allP m).length := by decide +kernel
      exact key _ h
theorem l9All (n : Nat) (hn : n ≤ 6) : ConT Try.prog 149 [.i n] (.own 0 0 (allP n).length) [.arr (.list (.int .i64)) (allP n) true] := by
  refine conT_of hmix hTab Try.func149 rfl rfl (by kernel_rfl) (by show 1 ≤ Try.f149.ntmps; decide) ?_
  refine stp ?_; try with_reducible exact True.intro
  refine Or.inl ⟨_, rfl, rfl, by first | rfl | (simp; done) | (simp; omega), ?_⟩; refine stp ?_; try with_reducible exact True.intro
  refine ⟨Nat, fun k => k ≤ n, fun k => n - k, fun k => [(0, .i n), (3, .own 0 0 (allP k).length), (4, .i k)], fun k => [.arr (.list (.int .i64)) (allP k) true], ⟨0, (fitK [] [1]), Nat.zero_le _⟩, fun k hk => ?_⟩
  dsimp only at hk ⊢
  obtain ⟨hr, hle⟩ := allP_facts k
  obtain ⟨hle1, hle2⟩ := hle (by omega)
  have hP : allP (k + 1) = allK k (allP k) (allP k).length := rfl
  generalize hout : allP k = out at *
  refine stp ?_; try with_reducible exact True.intro
  refine Br.mk (fun h => ?_) (fun h => ?_) <;> simp [-Int.ofNat_toNat] at h
  · refine stp ?_; try with_reducible exact True.intro
    refine Or.inl ?_; refine stp ?_; try with_reducible exact True.intro
    refine ⟨Nat, fun i => i ≤ out.length, fun i => out.length - i, fun i => [(0, .i n), (3, .own 0 0 out.length), (4, .i k), (5, .own 1 0 (allK k out i).length), (6, .i i)], fun i => [.arr (.list (.int .i64)) out true, .arr (.list (.int .i64)) (allK k out i) true], ⟨0, (fitK [] [0, 1]), Nat.zero_le _⟩, fun i hi => ?_⟩
    dsimp only at hi ⊢
    have hal := allK_len (k := k) hr i hi
    have hal2 : i * (k + 1) ≤ 720 * 7 := Nat.mul_le_mul (by omega) (by omega)
    refine stp ?_; try with_reducible exact True.intro
    refine Br.mk (fun h2 => ?_) (fun h2 => ?_) <;> simp [-Int.ofNat_toNat] at h2
    · have hsu := allK_succ (k := k) h2
      have hpl : (rdR out i).length = k := hr _ (by simp [rdR, h2])
      rw [hpl] at hsu
      refine stp ?_; try with_reducible exact True.intro
      refine ⟨Nat, fun j => j ≤ k + 1, fun j => k + 1 - j, fun j => [(0, .i n), (3, .own 0 0 out.length), (4, .i k), (5, .own 1 0 (allK k out i ++ rowK k (rdR out i) j).length), (6, .i i), (7, .i j)], fun j => [.arr (.list (.int .i64)) out true, .arr (.list (.int .i64)) (allK k out i ++ rowK k (rdR out i) j) true], ⟨0, ?_, Nat.zero_le _⟩, fun j hj => ?_⟩
      · dsimp only
        rw [show rowK k (rdR out i) 0 = [] from rfl, List.append_nil]
        exact (fitK [] [0, 1])
      dsimp only at hj ⊢
      have hsj := rowK_succ k (rdR out i) j
      have hrk : (rowK k (rdR out i) j).length = j := by simp [rowK]
      have hg : out.getD (i : Int).toNat [] = rdR out i := rfl
      have hset : out.set (i : Int).toNat (rdR out i) = out := set_self rfl
      have hlen2 : (allK k out i ++ rowK k (rdR out i) j).length ≤ 6000 := by simp [rowK]; omega
      refine stp ?_; try with_reducible exact True.intro
      refine .inr ⟨by first | rfl | trivial, by omega, ⟨fun he => ?_, ?_⟩⟩
      · have hp0 : rdR out i = [] := he
        have hk0 : k = 0 := by rw [← hpl, hp0]; rfl
        refine stp ?_; try with_reducible exact True.intro
        refine Br.mk (fun h3 => ?_) (fun h3 => ?_) <;> simp only [decide_eq_true_eq, decide_eq_false_iff_not, ne_eq, Decidable.not_not, Bool.not_eq_eq_eq_not, Bool.not_true, Bool.not_false] at h3
        · obtain rfl : j = 0 := by omega
          refine stp ?_; try with_reducible exact True.intro
          refine .inl ⟨rfl, ?_⟩
          refine stp ?_; try with_reducible exact True.intro
          refine .inl ⟨rfl, ?_⟩
          refine stp ?_; try with_reducible exact True.intro
          refine Or.inl ⟨_, rfl, rfl, by first | rfl | (simp; done) | (simp; omega), ?_⟩; refine stp ?_; try with_reducible exact True.intro
          refine Or.inl ⟨_, _, rfl, rfl, by decide, rfl, by first | rfl | omega | (simp; done) | (simp; omega), rfl, by first | rfl | omega | (simp; done) | (simp; omega), by first | omega | (simp; omega), ?_⟩; refine stp ?_; try with_reducible exact True.intro
          refine ⟨0 + 1, ⟨.jn 0 ⟨trivial, rfl⟩ (.frz []), [0, 11], ⟨rfl, rfl, rfl, ?_, rfl, rfl, trivial⟩, ⟨?_, ?_, trivial⟩, by decide, rfl, rfl, rfl⟩, by first | ((try dsimp only); omega) | (simp; omega), by first | ((try dsimp only); omega) | (simp; omega)⟩
          · rw [hsj]; simp [V.ren, EnvV.ev, EnvV.upd]; omega
          · show some (Obj.arr (.list (.int .i64)) (out.set (i : Int).toNat []) true) = _
            rw [← hp0, hset]
            rfl
          · rw [hsj, ← List.append_assoc, hp0]
            refine congrArg (fun x => some (Obj.arr (.list (.int .i64)) (allK k out i ++ rowK k [] 0 ++ [x]) true)) ?_
            simp [insK]
        · obtain rfl : j = k + 1 := by omega
          refine stp ?_; try with_reducible exact True.intro
          refine ⟨i + 1, ⟨.jn 0 ⟨trivial, rfl⟩ (.frz []), [0, 1], ⟨rfl, rfl, rfl, by rw [hsu]; rfl, rfl, trivial⟩, ⟨?_, by rw [hsu]; rfl, trivial⟩, by decide, rfl, rfl, rfl⟩, by first | ((try dsimp only); omega) | (simp; omega), by first | ((try dsimp only); omega) | (simp; omega)⟩
          show some (Obj.arr (.list (.int .i64)) (out.set (i : Int).toNat []) true) = _
          rw [← hp0, hset]
          rfl
      · simp only [hg]
        refine stp ?_; try with_reducible exact True.intro
        refine Br.mk (fun h3 => ?_) (fun h3 => ?_) <;> simp only [decide_eq_true_eq, decide_eq_false_iff_not, ne_eq, Decidable.not_not, Bool.not_eq_eq_eq_not, Bool.not_true, Bool.not_false] at h3
        · refine stp ?_; try with_reducible exact True.intro
          refine .inl ⟨rfl, ?_⟩
          refine stp ?_; try with_reducible exact True.intro
          refine .inl ⟨rfl, ?_⟩
          refine stp ?_; try with_reducible exact True.intro
          refine Or.inl ⟨_, rfl, rfl, by first | rfl | (simp; done) | (simp; omega), ?_⟩; refine stp ?_; try with_reducible exact True.intro
          refine Or.inl ⟨_, _, rfl, rfl, by decide, rfl, by first | rfl | omega | (simp; done) | (simp; omega), rfl, by first | rfl | omega | (simp; done) | (simp; omega), by first | omega | (simp; omega), ?_⟩; refine stp ?_; try with_reducible exact True.intro
          refine ⟨j + 1, ⟨.jn 0 ⟨Nat.zero_le _, _, rfl, rfl, by simp, by simp, rfl⟩ (.frz []), [0, 11], ⟨rfl, rfl, rfl, ?_, rfl, rfl, trivial⟩, ⟨?_, ?_, trivial⟩, by decide, rfl, rfl, rfl⟩, by first | ((try dsimp only); omega) | (simp; omega), by first | ((try dsimp only); omega) | (simp; omega)⟩
          · rw [hsj]; simp [V.ren, EnvV.ev, EnvV.upd]; omega
          · show some (Obj.arr (.list (.int .i64)) (out.set (i : Int).toNat (rdR out i)) true) = _
            rw [hset]
            rfl
          · rw [hsj, ← List.append_assoc]
            refine congrArg (fun x => some (Obj.arr (.list (.int .i64)) (allK k out i ++ rowK k (rdR out i) j ++ [x]) true)) ?_
            simp [insK, List.take_of_length_le]
        · obtain rfl : j = k + 1 := by omega
          refine stp ?_; try with_reducible exact True.intro
          refine ⟨i + 1, ⟨.jn 0 ⟨Nat.zero_le _, _, rfl, rfl, by simp, by simp, rfl⟩ (.frz []), [0, 1], ⟨rfl, rfl, rfl, by rw [hsu]; rfl, rfl, trivial⟩, ⟨?_, by rw [hsu]; rfl, trivial⟩, by decide, rfl, rfl, rfl⟩, by first | ((try dsimp only); omega) | (simp; omega), by first | ((try dsimp only); omega) | (simp; omega)⟩
          show some (Obj.arr (.list (.int .i64)) (out.set (i : Int).toNat (rdR out i)) true) = _
          rw [hset]
          rfl
    · obtain rfl : i = out.length := by omega
      refine stp ?_; try with_reducible exact True.intro
      refine ⟨k + 1, ⟨.frz [], [1], ⟨rfl, by rw [hP]; rfl, rfl, trivial⟩, ⟨by rw [hP]; rfl, trivial⟩, by decide, rfl, rfl, rfl⟩, by first | ((try dsimp only); omega) | (simp; omega), by first | ((try dsimp only); omega) | (simp; omega)⟩
  · obtain rfl : k = n := by omega
    rw [hout]
    refine stp ?_; try with_reducible exact True.intro
    exact (fitK [] [0])
end Go.Proofs.YtldjlonofclelaaTv
end
section
open Go Go.Proofs.YtldjlonofclelaaVe Go.Proofs.YtldjlonofclelaaTv Go.Proofs
namespace Go.Proofs.YtldjlonofclelaaTv
set_option maxRecDepth 8000
set_option maxHeartbeats 2000000
theorem insEq {out : List (List Int)} {own : List Int} {k : Nat} (hk : k + 1 ≤ out.length) : List.take (k + 1 + 1) (List.take (k + 1) out ++ [own]) ++ List.take (min ((out.length : Int) - ((k : Int) + 1)).toNat (out.length - (k + 1))) (List.take ((out.length : Int) - ((k : Int) + 1)).toNat (List.drop (k + 1) out)) = List.take (k + 1) out ++ own :: List.drop (k + 1) out := by
  have e : ((out.length : Int) - ((k : Int) + 1)).toNat = out.length - (k + 1) := by omega
  rw [e, Nat.min_self, List.take_take, Nat.min_self, List.take_of_length_le (l := List.take (k + 1) out ++ [own]) (by simp; omega), List.take_of_length_le (l := List.drop (k + 1) out) (by simp), List.append_assoc]
  rfl
theorem l19Sorted (ll : List (List Int)) (names : List Int) (hl : ll.length ≤ 9) (hr : ∀ j : Nat, j < ll.length → (rdR ll j).length = 2 ∧ (0 ≤ rd (rdR ll j) 0 ∧ rd (rdR ll j) 0 < names.length) ∧ (0 ≤ rd (rdR ll j) 1 ∧ rd (rdR ll j) 1 < names.length)) : ConT Try.prog 150 [.ill ll, .il names] (.own 0 0 ll.length) [.arr (.list (.int .i64)) (renF ll names ll.length) false] := by
  refine conT_of hmix hTab Try.func150 rfl rfl (by kernel_rfl) (by show 2 ≤ Try.f150.ntmps; decide) ?_
  have hlast := (renF_facts (names := names) ll.length (Nat.le_refl _)).1
  refine stp ?_; try with_reducible exact True.intro
  refine Or.inr ?_; refine stp ?_; try with_reducible exact True.intro
  refine ⟨Nat, fun i => i ≤ ll.length, fun i => ll.length - i, fun i => [(0, .ill ll), (1, .il names), (5, .own 0 0 (renF ll names i).length), (6, .i i)], fun i => [.arr (.list (.int .i64)) (renF ll names i) false], ⟨0, (fitK [] [0]), Nat.zero_le _⟩, fun i hi => ?_⟩
  dsimp only at hi ⊢
  obtain ⟨hol, hor⟩ := renF_facts (names := names) i hi
  refine stp ?_; try with_reducible exact True.intro
  refine Br.mk (fun h => ?_) (fun h => ?_) <;> simp [-Int.ofNat_toNat] at h
  · obtain ⟨hr1, hr2, hr3⟩ := hr i h
    have hs := renF_succ (names := names) h
    have ql : List.length (rdT (.list (.int .i64)) ll (i : Int)) = (rdR ll i).length := rfl; have q0 : @Eq Int (rdT (.int .i64) (rdT (.list (.int .i64)) ll (i : Int)) 0) (rd (rdR ll i) 0) := rfl; have q1 : @Eq Int (rdT (.int .i64) (rdT (.list (.int .i64)) ll (i : Int)) 1) (rd (rdR ll i) 1) := rfl; have qlo : List.length (rdT (.list (.int .i64)) ll (((i : Int).toNat : Nat) : Int)) = (rdR ll i).length := rfl; have q0o : @Eq Int (rdT (.int .i64) (rdT (.list (.int .i64)) ll (((i : Int).toNat : Nat) : Int)) 0) (rd (rdR ll i) 0) := rfl; have q1o : @Eq Int (rdT (.int .i64) (rdT (.list (.int .i64)) ll (((i : Int).toNat : Nat) : Int)) 1) (rd (rdR ll i) 1) := rfl
    generalize hout : renF ll names i = out at *
    refine stp ?_; try with_reducible exact True.intro
    refine useT ((l1Min (rd names (rd (rdR ll i) 0)) (rd names (rd (rdR ll i) 1))).toT) ?_; try with_reducible exact True.intro
    refine useT ((l1Max (rd names (rd (rdR ll i) 0)) (rd names (rd (rdR ll i) 1))).toT) ?_; try with_reducible exact True.intro
    have hown : [min (rd names (rd (rdR ll i) 0)) (rd names (rd (rdR ll i) 1)), max (rd names (rd (rdR ll i) 0)) (rd names (rd (rdR ll i) 1))] = pairN names (rdR ll i) := rfl
    simp only [hown]
    have hownl : (pairN names (rdR ll i)).length = 2 := rfl
    generalize pairN names (rdR ll i) = own at *
    refine ⟨Nat, fun k => k ≤ out.length ∧ posP out own out.length = posP out own k, fun k => k, fun k => [(0, .ill ll), (1, .il names), (5, .own 0 0 out.length), (6, .i i), (9, .own 1 0 own.length), (10, .i k)], fun k => [.arr (.list (.int .i64)) out false, .arr (.int .i64) own true], ⟨out.length, (fitK [] [0, 1]), Nat.le_refl _, rfl⟩, fun k ⟨hk, hpos⟩ => ?_⟩
    dsimp only at hk hpos ⊢
    cases k with
    | zero =>
      have hins : insP out own = out.take 0 ++ own :: out.drop 0 := by unfold insP; rw [hpos]; rfl
      refine stp ?_; try with_reducible exact True.intro
      refine Or.inr ?_
      refine stp ?_; try with_reducible exact True.intro
      refine Or.inr ?_
      refine stp ?_; try with_reducible exact True.intro
      refine Or.inr ?_
      refine stp ?_; try with_reducible exact True.intro
      refine Or.inr ?_
      refine stp ?_; try with_reducible exact True.intro
      refine Or.inr ?_
      refine stp ?_; try with_reducible exact True.intro
      refine ⟨i + 1, ⟨.frz [], [6], ⟨rfl, rfl, ?_, rfl, trivial⟩, ⟨?_, trivial⟩, by decide, rfl, rfl, rfl⟩, by first | ((try dsimp only); omega) | (simp; omega), by first | ((try dsimp only); omega) | (simp; omega)⟩
      · show V.own 6 0 _ = V.own 6 0 _
        rw [hs, insP_length]
        congr 1
        first | (simp; done) | (simp; omega)
      · rw [hs, hins]
        refine congrArg (fun x => some (Obj.arr (.list (.int .i64)) x false)) ?_
        simp
    | succ k =>
      rw [posP] at hpos
      have hrow2 : (rdR out k).length = 2 := hor _ (by simp [rdR, show k < out.length by omega])
      have hg : rdT (.list (.int .i64)) out (((k + 1 : Nat) : Int) - 1) = rdR out k := by
        show out.getD (((k + 1 : Nat) : Int) - 1).toNat [] = rdR out k
        rw [show (((k + 1 : Nat) : Int) - 1).toNat = k by omega]; rfl
      have hg2 : rdT (.list (.int .i64)) out ((Int.toNat (((k + 1 : Nat) : Int) - 1) : Nat) : Int) = rdR out k := by
        show out.getD (((Int.toNat (((k + 1 : Nat) : Int) - 1) : Nat) : Int)).toNat [] = rdR out k
        rw [show (((Int.toNat (((k + 1 : Nat) : Int) - 1) : Nat) : Int)).toNat = k by omega]; rfl
      have hl2 : List.length (rdT (.list (.int .i64)) out (((k + 1 : Nat) : Int) - 1)) = 2 := by rw [hg]; exact hrow2
      have hl3 : List.length (rdT (.list (.int .i64)) out ((Int.toNat (((k + 1 : Nat) : Int) - 1) : Nat) : Int)) = 2 := by rw [hg2]; exact hrow2
      have hins : k + 1 = posP out own out.length → insP out own = out.take (k + 1) ++ own :: out.drop (k + 1) := fun e => by unfold insP; rw [← e]
      refine stp ?_; try with_reducible exact True.intro
      refine brT (decide_eq_true (by omega)) ?_
      refine stp ?_; try with_reducible exact True.intro
      refine Br.mk (fun c1 => ?_) (fun c1 => ?_) <;> simp only [decide_eq_true_eq, decide_eq_false_iff_not, ne_eq, Decidable.not_not, Bool.not_eq_eq_eq_not, Bool.not_true, Bool.not_false] at c1
      · replace c1 : rd own 0 < rd (rdR out k) 0 := by rw [← hg2]; exact c1
        rw [if_pos (by simp [gtP, c1])] at hpos
        refine stp ?_; try with_reducible exact True.intro
        refine ⟨k, ⟨.frz [], [0, 1], ⟨rfl, rfl, rfl, rfl, rfl, ?_, trivial⟩, ⟨rfl, rfl, trivial⟩, by decide, rfl, rfl, rfl⟩, ⟨by omega, hpos⟩, by first | ((try dsimp only); omega) | (simp; omega)⟩
        show V.i (((k + 1 : Nat) : Int) - 1) = V.i (k : Int)
        rw [show ((k + 1 : Nat) : Int) - 1 = (k : Int) by omega]
      · replace c1 : ¬ rd own 0 < rd (rdR out k) 0 := by rw [← hg2]; exact c1
        refine stp ?_; try with_reducible exact True.intro
        refine Br.mk (fun c2 => ?_) (fun c2 => ?_) <;> simp only [decide_eq_true_eq, decide_eq_false_iff_not, ne_eq, Decidable.not_not, Bool.not_eq_eq_eq_not, Bool.not_true, Bool.not_false] at c2
        · replace c2 : rd (rdR out k) 0 = rd own 0 := by rw [← hg2]; exact c2
          refine stp ?_; try with_reducible exact True.intro
          refine Br.mk (fun c3 => ?_) (fun c3 => ?_) <;> simp only [decide_eq_true_eq, decide_eq_false_iff_not, ne_eq, Decidable.not_not, Bool.not_eq_eq_eq_not, Bool.not_true, Bool.not_false] at c3
          · replace c3 : rd own 1 < rd (rdR out k) 1 := by rw [← hg2]; exact c3
            rw [if_pos (by simp [gtP, c2, c3])] at hpos
            refine stp ?_; try with_reducible exact True.intro
            refine ⟨k, ⟨.frz [], [0, 1], ⟨rfl, rfl, rfl, rfl, rfl, ?_, trivial⟩, ⟨rfl, rfl, trivial⟩, by decide, rfl, rfl, rfl⟩, ⟨by omega, hpos⟩, by first | ((try dsimp only); omega) | (simp; omega)⟩
            show V.i (((k + 1 : Nat) : Int) - 1) = V.i (k : Int)
            rw [show ((k + 1 : Nat) : Int) - 1 = (k : Int) by omega]
          · replace c3 : ¬ rd own 1 < rd (rdR out k) 1 := by rw [← hg2]; exact c3
            rw [if_neg (by simp [gtP, c2]; omega)] at hpos
            refine stp ?_; try with_reducible exact True.intro
            refine Or.inr ?_
            refine stp ?_; try with_reducible exact True.intro
            refine Or.inr ?_
            refine stp ?_; try with_reducible exact True.intro
            refine Or.inr ?_
            refine stp ?_; try with_reducible exact True.intro
            refine Or.inr ?_
            refine stp ?_; try with_reducible exact True.intro
            refine Or.inr ?_
            refine stp ?_; try with_reducible exact True.intro
            refine ⟨i + 1, ⟨.frz [], [6], ⟨rfl, rfl, ?_, rfl, trivial⟩, ⟨?_, trivial⟩, by decide, rfl, rfl, rfl⟩, by first | ((try dsimp only); omega) | (simp; omega), by first | ((try dsimp only); omega) | (simp; omega)⟩
            · show V.own 6 0 _ = V.own 6 0 _
              rw [hs, insP_length]
              congr 1
              first | (simp; done) | (simp; omega)
            · rw [hs, hins (hpos.symm)]
              refine congrArg (fun x => some (Obj.arr (.list (.int .i64)) x false)) ?_
              have e1 : ((k + 1 : Nat) : Int).toNat = k + 1 := by omega
              simp
              exact insEq hk
        · replace c2 : ¬ rd (rdR out k) 0 = rd own 0 := by rw [← hg2]; exact c2
          rw [if_neg (by simp [gtP, c2]; omega)] at hpos
          refine stp ?_; try with_reducible exact True.intro
          refine Or.inr ?_
          refine stp ?_; try with_reducible exact True.intro
          refine Or.inr ?_
          refine stp ?_; try with_reducible exact True.intro
          refine Or.inr ?_
          refine stp ?_; try with_reducible exact True.intro
          refine Or.inr ?_
          refine stp ?_; try with_reducible exact True.intro
          refine Or.inr ?_
          refine stp ?_; try with_reducible exact True.intro
          refine ⟨i + 1, ⟨.frz [], [6], ⟨rfl, rfl, ?_, rfl, trivial⟩, ⟨?_, trivial⟩, by decide, rfl, rfl, rfl⟩, by first | ((try dsimp only); omega) | (simp; omega), by first | ((try dsimp only); omega) | (simp; omega)⟩
          · show V.own 6 0 _ = V.own 6 0 _
            rw [hs, insP_length]
            congr 1
            first | (simp; done) | (simp; omega)
          · rw [hs, hins (hpos.symm)]
            refine congrArg (fun x => some (Obj.arr (.list (.int .i64)) x false)) ?_
            have e1 : ((k + 1 : Nat) : Int).toNat = k + 1 := by omega
            simp
            exact insEq hk
  · obtain rfl : i = ll.length := by omega
    rw [hol]
    refine stp ?_; try with_reducible exact True.intro
    exact (fitK [] [0])
end Go.Proofs.YtldjlonofclelaaTv
end
section
open Go Go.Proofs.YtldjlonofclelaaVe Go.Proofs.YtldjlonofclelaaTv Go.Proofs
namespace Go.Proofs.YtldjlonofclelaaTv
set_option maxRecDepth 8000
set_option maxHeartbeats 2000000
def idP (n : Nat) : List Int := (List.range n).map fun (j : Nat) => (j : Int)
theorem insK_perm (k : Int) (p : List Int) (j : Nat) : (insK k p j).Perm (k :: p) := by
  unfold insK
  rw [List.append_assoc]
  exact (List.perm_middle (a := k) (l₁ := p.take j) (l₂ := p.drop j)).trans (by rw [List.take_append_drop])
theorem allP_perm : ∀ n, ∀ r ∈ allP n, r.Perm (idP n)
  | 0, r, hr => by
    simp [allP] at hr
    subst hr
    exact List.Perm.refl _
  | n + 1, r, hr => by
    simp only [allP, allK, List.mem_flatMap, rowK, List.mem_map] at hr
    obtain ⟨p, hp, j, hj, rfl⟩ := hr
    have h := allP_perm n p (List.mem_of_mem_take hp)
    refine (insK_perm _ _ _).trans ((h.cons _).trans ?_)
    have e : idP (n + 1) = idP n ++ [(n : Int)] := by simp [idP, List.range_succ]
    rw [e]
    exact (List.perm_append_singleton _ _).symm
theorem rd_memP {l : List Int} {x : Int} (h0 : 0 ≤ x) (h1 : x < l.length) : rd l x ∈ l := by
  have : x.toNat < l.length := by omega
  simp [rd, this]
theorem allP_entry {n : Nat} {r : List Int} (h : r ∈ allP n) : r.length = n ∧ ∀ x ∈ r, 0 ≤ x ∧ x < n := by
  refine ⟨(allP_facts n).1 r h, fun x hx => ?_⟩
  have := (allP_perm n r h).mem_iff.1 hx
  simp only [idP, List.mem_map, List.mem_range] at this
  obtain ⟨j, hj, rfl⟩ := this
  omega
theorem insP_mem {out : List (List Int)} {own r : List Int} (h : r ∈ insP out own) : r ∈ out ∨ r = own := by
  rcases List.mem_append.1 h with h | h
  · exact .inl (List.mem_of_mem_take h)
  · rcases List.mem_cons.1 h with rfl | h
    · exact .inr rfl
    · exact .inl (List.mem_of_mem_drop h)
theorem renF_small {ll : List (List Int)} {names : List Int} (hr : ∀ j : Nat, j < ll.length → (rdR ll j).length = 2 ∧ (0 ≤ rd (rdR ll j) 0 ∧ rd (rdR ll j) 0 < names.length) ∧ (0 ≤ rd (rdR ll j) 1 ∧ rd (rdR ll j) 1 < names.length)) (hn : ∀ x ∈ names, 0 ≤ x ∧ x ≤ 1000) : ∀ i, i ≤ ll.length → ∀ r ∈ renF ll names i, r.length = 2 ∧ (0 ≤ rd r 0 ∧ rd r 0 ≤ 1000) ∧ (0 ≤ rd r 1 ∧ rd r 1 ≤ 1000)
  | 0, _, r, h => by simp [renF] at h
  | i + 1, hi, r, h => by
    rw [renF_succ (show i < ll.length from hi)] at h
    rcases insP_mem h with h | rfl
    · exact renF_small hr hn i (by omega) r h
    · obtain ⟨h1, ⟨h2, h3⟩, h4, h5⟩ := hr i hi
      have k1 := hn _ (rd_memP h2 h3)
      have k2 := hn _ (rd_memP h4 h5)
      refine ⟨rfl, ?_, ?_⟩
      · show 0 ≤ min _ _ ∧ min _ _ ≤ (1000 : Int)
        omega
      · show 0 ≤ max _ _ ∧ max _ _ ≤ (1000 : Int)
        omega
theorem Small_renF {ll : List (List Int)} {names : List Int} (hr : ∀ j : Nat, j < ll.length → (rdR ll j).length = 2 ∧ (0 ≤ rd (rdR ll j) 0 ∧ rd (rdR ll j) 0 < names.length) ∧ (0 ≤ rd (rdR ll j) 1 ∧ rd (rdR ll j) 1 < names.length)) (hn : ∀ x ∈ names, 0 ≤ x ∧ x ≤ 1000) : Small (renF ll names ll.length) := fun j hj =>
  renF_small hr hn _ (Nat.le_refl _) _ (by simp [rdR, hj])
/-- The least of the forms. -/
def leastF (ll : List (List Int)) (ps : List (List Int)) (i : Nat) : List (List Int) := ((ps.take i).drop 1).foldl (fun b p => if cmpF (renF ll p ll.length) b < 0 then renF ll p ll.length else b) (renF ll (rdR ps 0) ll.length)
theorem leastF_succ {ll ps : List (List Int)} {i : Nat} (h : i < ps.length) (h1 : 1 ≤ i) : leastF ll ps (i + 1) = if cmpF (renF ll (rdR ps i) ll.length) (leastF ll ps i) < 0 then renF ll (rdR ps i) ll.length else leastF ll ps i := by
  unfold leastF
  rw [take_succR h, List.drop_append_of_le_length (by simp; omega), List.foldl_append]
  rfl
end Go.Proofs.YtldjlonofclelaaTv
end
section
open Go Go.Proofs.YtldjlonofclelaaVe Go.Proofs.YtldjlonofclelaaTv Go.Proofs
namespace Go.Proofs.YtldjlonofclelaaTv
set_option maxRecDepth 8000
set_option maxHeartbeats 2000000
theorem l19Least (g : Int) (n : Nat) (hg : 2 * g - 2 = n) (hn : n ≤ 6) (ll : List (List Int)) (hl : ll.length ≤ 9) (hr : ∀ j : Nat, j < ll.length → (rdR ll j).length = 2 ∧ (0 ≤ rd (rdR ll j) 0 ∧ rd (rdR ll j) 0 < n) ∧ (0 ≤ rd (rdR ll j) 1 ∧ rd (rdR ll j) 1 < n)) : ConT Try.prog 138 [.i g, .ill ll] (.own 0 0 ll.length) [.frz (.list (.int .i64)) (leastF ll (allP n) (allP n).length)] := by
  refine conT_of hmix hTab Try.func138 rfl rfl (by kernel_rfl) (by show 2 ≤ Try.f138.ntmps; decide) ?_
  obtain ⟨ha1, ha2⟩ := (allP_facts n).2 hn
  have hrow : ∀ i : Nat, i < (allP n).length → (rdR (allP n) i).length = n ∧ ∀ x ∈ rdR (allP n) i, 0 ≤ x ∧ x < n := fun i hi => allP_entry (by simp [rdR, hi])
  have hrr : ∀ i : Nat, i < (allP n).length → ∀ j : Nat, j < ll.length → (rdR ll j).length = 2 ∧ (0 ≤ rd (rdR ll j) 0 ∧ rd (rdR ll j) 0 < (rdR (allP n) i).length) ∧ (0 ≤ rd (rdR ll j) 1 ∧ rd (rdR ll j) 1 < (rdR (allP n) i).length) := fun i hi => by rw [(hrow i hi).1]; exact hr
  have hsm : ∀ i : Nat, i < (allP n).length → Small (renF ll (rdR (allP n) i) ll.length) := fun i hi => Small_renF (hrr i hi) fun x hx => by have := (hrow i hi).2 x hx; omega
  have hle : ∀ i : Nat, (renF ll (rdR (allP n) i) ll.length).length = ll.length := fun i => (renF_facts ll.length (Nat.le_refl _)).1
  have h1 : leastF ll (allP n) 1 = renF ll (rdR (allP n) 0) ll.length := by
    unfold leastF
    rw [show ((allP n).take 1).drop 1 = [] from List.drop_eq_nil_of_le (by simp; omega)]
    rfl
  have hbb : ∀ k : Nat, 1 ≤ k → k ≤ (allP n).length → (leastF ll (allP n) k).length = ll.length ∧ Small (leastF ll (allP n) k) := fun k => by
    induction k with
    | zero => intro h; omega
    | succ k ih =>
      intro _ h
      by_cases hk : 1 ≤ k
      · rw [leastF_succ h hk]
        split
        · exact ⟨hle k, hsm k h⟩
        · exact ih hk (by omega)
      · obtain rfl : k = 0 := by omega
        rw [Nat.zero_add, h1]
        exact ⟨hle 0, hsm 0 h⟩
  refine stp ?_; try with_reducible exact True.intro
  rw [hg]
  refine useT (l9All n hn) ?_; try with_reducible exact True.intro
  refine .inl ?_
  refine stp ?_; try with_reducible exact True.intro
  refine useT (l19Sorted ll (rdR (allP n) 0) hl (hrr 0 (by omega))) ?_; try with_reducible exact True.intro
  refine ⟨Nat, fun k => 1 ≤ k ∧ k ≤ (allP n).length, fun k => (allP n).length - k, fun k => [(1, .ill ll), (5, .own 0 0 (allP n).length), (6, .own 1 0 ll.length), (7, .i k)], fun k => [.frz (.list (.int .i64)) (allP n), .frz (.list (.int .i64)) (leastF ll (allP n) k)], ⟨1, ⟨.frz [1], [0, 1], ⟨rfl, rfl, rfl, rfl, trivial⟩, ⟨rfl, by rw [h1]; rfl, trivial⟩, by decide, rfl, rfl, rfl⟩, by omega⟩, fun k ⟨hk1, hk⟩ => ?_⟩
  dsimp only at hk1 hk ⊢
  refine stp ?_; try with_reducible exact True.intro
  refine Br.mk (fun h => ?_) (fun h => ?_) <;> simp [-Int.ofNat_toNat] at h
  · have hs := leastF_succ (ll := ll) h hk1
    have hb : (leastF ll (allP n) k).length = ll.length ∧ Small (leastF ll (allP n) k) := hbb k hk1 hk
    refine stp ?_; try with_reducible exact True.intro
    refine useT (l19Sorted ll (rdR (allP n) k) hl (hrr k h)) ?_; try with_reducible exact True.intro
    refine .inl ⟨_, _, _, (l19Less (renF ll (rdR (allP n) k) ll.length) (leastF ll (allP n) k) (by rw [hle]; exact hl) (by rw [hle]; exact hb.1) (hsm k h) hb.2).toT, ⟨⟨_, _, rfl, Nat.le_of_eq (by rw [hle]; exact Nat.zero_add _), List.take_of_length_le (Nat.le_of_eq (hle _))⟩, ⟨_, rfl, Nat.le_of_eq (by rw [hb.1]; exact Nat.zero_add _), List.take_of_length_le (Nat.le_of_eq hb.1)⟩, trivial⟩, ?_⟩; refine stp ?_; try with_reducible exact True.intro
    refine Br.mk (fun c1 => ?_) (fun c1 => ?_) <;> simp [-Int.ofNat_toNat] at c1
    · rw [if_pos c1] at hs
      refine stp ?_; try with_reducible exact True.intro
      exact ⟨k + 1, ⟨.frz [2], [0, 2], ⟨rfl, rfl, rfl, rfl, trivial⟩, ⟨rfl, by rw [hs]; rfl, trivial⟩, by decide, rfl, rfl, rfl⟩, by omega, by first | ((try dsimp only); omega) | (simp; omega)⟩
    · rw [if_neg (by omega)] at hs
      refine stp ?_; try with_reducible exact True.intro
      exact ⟨k + 1, ⟨.frz [], [0, 1], ⟨rfl, rfl, rfl, rfl, trivial⟩, ⟨rfl, by rw [hs]; rfl, trivial⟩, by decide, rfl, rfl, rfl⟩, by omega, by first | ((try dsimp only); omega) | (simp; omega)⟩
  · obtain rfl : k = (allP n).length := by omega
    refine stp ?_; try with_reducible exact True.intro
    exact ⟨.frz [], [1], ⟨rfl, trivial⟩, ⟨rfl, trivial⟩, by decide, rfl, rfl, rfl⟩
end Go.Proofs.YtldjlonofclelaaTv
end
section
open Go Go.Proofs.YtldjlonofclelaaVe Go.Proofs.YtldjlonofclelaaTv Go.Proofs
namespace Go.Proofs.YtldjlonofclelaaTv
set_option maxRecDepth 8000
set_option maxHeartbeats 2000000
theorem idP_succ (n : Nat) : idP (n + 1) = idP n ++ [(n : Int)] := by simp [idP, List.range_succ]
theorem idP_length (n : Nat) : (idP n).length = n := by simp [idP]
theorem identity (n : Nat) (hn : n ≤ 1000) : ConT Try.prog 133 [.i n] (.own 0 0 n) [.arr (.int .i64) (idP n) true] := by
  refine conT_of hmix hTab Try.func133 rfl rfl (by kernel_rfl) (by show 1 ≤ Try.f133.ntmps; decide) ?_
  refine stp ?_; try with_reducible exact True.intro
  refine ⟨Nat, fun i => i ≤ n, fun i => n - i, fun i => [(3, .own 0 0 (idP i).length), (6, .i n), (7, .i i)], fun i => [.arr (.int .i64) (idP i) true], ⟨0, (fitK [] [0]), Nat.zero_le _⟩, fun i hi => ?_⟩
  dsimp only at hi ⊢
  have hil := idP_length i
  have hs := idP_succ i
  refine stp ?_; try with_reducible exact True.intro
  refine Br.mk (fun h => ?_) (fun h => ?_) <;> simp [-Int.ofNat_toNat] at h
  · refine stp ?_; try with_reducible exact True.intro
    refine ⟨i + 1, ⟨.frz [], [2], ⟨?_, rfl, rfl, trivial⟩, ⟨?_, trivial⟩, by decide, rfl, rfl, rfl⟩, by first | ((try dsimp only); omega) | (simp; omega), by first | ((try dsimp only); omega) | (simp; omega)⟩
    · rw [hs, List.length_append]; rfl
    · rw [hs]
      refine congrArg (fun x => some (Obj.arr (.int .i64) x true)) ?_
      simp
  · obtain rfl : i = n := by omega
    simp only [hil]
    refine stp ?_; try with_reducible exact True.intro
    exact (fitK [] [0])
end Go.Proofs.YtldjlonofclelaaTv
end
section
open Go Go.Proofs.YtldjlonofclelaaVe Go.Proofs.YtldjlonofclelaaTv Go.Proofs
namespace Go.Proofs.YtldjlonofclelaaTv
set_option maxRecDepth 8000
set_option maxHeartbeats 2000000
end Go.Proofs.YtldjlonofclelaaTv
end
section
open Go Go.Proofs.YtldjlonofclelaaVe Go.Proofs.YtldjlonofclelaaTv Go.Proofs
namespace Go.Proofs.YtldjlonofclelaaTv
set_option maxRecDepth 8000
set_option maxHeartbeats 2000000
/-- Every row is a pair. -/
def Prs (a : List (List Int)) : Prop := ∀ r ∈ a, r.length = 2
theorem cmpF_anti : ∀ (a b : List (List Int)), cmpF a b = - cmpF b a
  | [], [] => rfl
  | [], _ :: _ => rfl
  | _ :: _, [] => rfl
  | e :: a, f :: b => by
    have := cmpF_anti a b
    simp only [cmpF]
    split <;> split <;> (try split) <;> (try split) <;> omega
theorem cmpF_self : ∀ (a : List (List Int)), cmpF a a = 0
  | [] => rfl
  | e :: a => by simp [cmpF, cmpF_self a]
theorem cmpF_le_trans : ∀ {a b c : List (List Int)}, a.length = b.length → b.length = c.length → cmpF a b ≤ 0 → cmpF b c ≤ 0 → cmpF a c ≤ 0
  | [], [], [], _, _, _, _ => by simp [cmpF]
  | e :: a, f :: b, g :: c, h1, h2, h3, h4 => by
    have ih := @cmpF_le_trans a b c (by simpa using h1) (by simpa using h2)
    revert h3 h4
    simp only [cmpF]
    split <;> split <;> (try split) <;> (try split) <;> (try split) <;> (try split) <;> first | omega | (intro h3 h4; exact ih h3 h4)
  | [], _ :: _, _, h, _, _, _ => by cases h
  | _ :: _, [], _, h, _, _, _ => by cases h
  | [], [], _ :: _, _, h, _, _ => by cases h
  | _ :: _, _ :: _, [], _, h, _, _ => by cases h
theorem pair_ext {e f : List Int} (h1 : e.length = 2) (h2 : f.length = 2) (h3 : rd e 0 = rd f 0) (h4 : rd e 1 = rd f 1) : e = f := by
  match e, f, h1, h2 with
  | [a, b], [c, d], _, _ =>
    replace h3 : a = c := h3
    replace h4 : b = d := h4
    rw [h3, h4]
theorem cmpF_eq : ∀ {a b : List (List Int)}, a.length = b.length → Prs a → Prs b → cmpF a b = 0 → a = b
  | [], [], _, _, _, _ => rfl
  | e :: a, f :: b, h, ha, hb, h3 => by
    simp only [cmpF] at h3
    split at h3
    · omega
    · split at h3
      · omega
      · rename_i h5 h6
        rw [pair_ext (ha e (by simp)) (hb f (by simp)) (by omega) (by omega), cmpF_eq (by simpa using h) (fun r hr => ha r (by simp [hr])) (fun r hr => hb r (by simp [hr])) h3]
  | [], _ :: _, h, _, _, _ => by cases h
  | _ :: _, [], h, _, _, _ => by cases h
/-- The least of forms of one shape. -/
structure IsMin (n : Nat) (S : List (List Int) → Prop) (m : List (List Int)) : Prop where
  mem : S m
  le : ∀ x, S x → cmpF m x ≤ 0
theorem IsMin.unique {n : Nat} {S : List (List Int) → Prop} {m m' : List (List Int)} (hS : ∀ x, S x → x.length = n ∧ Prs x) (h : IsMin n S m) (h' : IsMin n S m') : m = m' := by
  have h1 := h.le _ h'.mem
  have h2 := h'.le _ h.mem
  have h3 := cmpF_anti m m'
  have s1 := hS _ h.mem
  have s2 := hS _ h'.mem
  exact cmpF_eq (by omega) s1.2 s2.2 (by omega)
def updB (ll : List (List Int)) (b : Option (List (List Int))) (o : List Int) : Option (List (List Int)) := match b with
  | none => some (renF ll o ll.length)
  | some b => if cmpF (renF ll o ll.length) b < 0 then some (renF ll o ll.length) else some b
theorem updB_min {ll : List (List Int)} (n : Nat) (hn : n = ll.length) : ∀ (ps : List (List Int)) (b : List (List Int)) (S : List (List Int) → Prop), (∀ x, S x → x.length = n) → IsMin n S b → ∃ m, ps.foldl (updB ll) (some b) = some m ∧ IsMin n (fun x => S x ∨ ∃ p ∈ ps, x = renF ll p n) m
  | [], b, S, _, h => ⟨b, rfl, .inl h.mem, fun x hx => hx.elim (h.le x) fun ⟨_, hp, _⟩ => by cases hp⟩
  | p :: ps, b, S, hS, h => by
    subst hn
    have hl := (renF_facts (ll := ll) (names := p) ll.length (Nat.le_refl _)).1
    have key : ∃ b', updB ll (some b) p = some b' ∧ IsMin ll.length (fun x => S x ∨ x = renF ll p ll.length) b' := by
      simp only [updB]
      split
      · rename_i c
        refine ⟨_, rfl, .inr rfl, fun x hx => ?_⟩
        rcases hx with hx | rfl
        · exact cmpF_le_trans (b := b) (by rw [hl, hS _ h.mem]) (by rw [hS _ h.mem, hS _ hx]) (by omega) (h.le x hx)
        · rw [cmpF_self]; omega
      · rename_i c
        refine ⟨_, rfl, .inl h.mem, fun x hx => ?_⟩
        rcases hx with hx | rfl
        · exact h.le x hx
        · have := cmpF_anti b (renF ll p ll.length)
          omega
    obtain ⟨b', e, hb⟩ := key
    obtain ⟨m, e2, hm⟩ := updB_min _ rfl ps b' _ (fun x hx => hx.elim (hS x) fun q => by rw [q, hl]) hb
    refine ⟨m, by rw [List.foldl_cons, e, e2], ?_, fun x hx => hm.le x ?_⟩
    · rcases hm.mem with (h1 | h1) | ⟨q, hq, h1⟩
      · exact .inl h1
      · exact .inr ⟨p, by simp, h1⟩
      · exact .inr ⟨q, by simp [hq], h1⟩
    · rcases hx with h1 | ⟨q, hq, h1⟩
      · exact .inl (.inl h1)
      · rcases List.mem_cons.1 hq with rfl | hq
        · exact .inl (.inr h1)
        · exact .inr ⟨q, hq, h1⟩
theorem updB_none {ll : List (List Int)} {ps : List (List Int)} (h : ps ≠ []) : ∃ m, ps.foldl (updB ll) none = some m ∧ IsMin ll.length (fun x => ∃ p ∈ ps, x = renF ll p ll.length) m := by
  cases ps with
  | nil => exact absurd rfl h
  | cons p ps =>
    have hl := (renF_facts (ll := ll) (names := p) ll.length (Nat.le_refl _)).1
    obtain ⟨m, e, hm⟩ := updB_min ll.length rfl ps (renF ll p ll.length) (fun x => x = renF ll p ll.length) (fun x hx => by rw [hx, hl]) ⟨rfl, fun x hx => by rw [hx, cmpF_self]; omega⟩
    refine ⟨m, e, ?_, fun x hx => hm.le x ?_⟩
    · rcases hm.mem with h1 | ⟨q, hq, h1⟩
      · exact ⟨p, by simp, h1⟩
      · exact ⟨q, by simp [hq], h1⟩
    · obtain ⟨q, hq, h1⟩ := hx
      rcases List.mem_cons.1 hq with rfl | hq
      · exact .inl h1
      · exact .inr ⟨q, hq, h1⟩
theorem leastF_upd {ll ps : List (List Int)} : ∀ {i : Nat}, 1 ≤ i → i ≤ ps.length → (ps.take i).foldl (updB ll) none = some (leastF ll ps i)
  | 0, h, _ => by omega
  | i + 1, h, hi => by
    rw [take_succR (show i < ps.length from hi), List.foldl_append]
    by_cases h1 : 1 ≤ i
    · rw [leastF_upd h1 (by omega), leastF_succ hi h1]
      simp only [List.foldl_cons, List.foldl_nil, updB]
      split <;> rfl
    · obtain rfl : i = 0 := by omega
      unfold leastF
      rw [show ((ps.take (0 + 1)).drop 1) = [] from List.drop_eq_nil_of_le (by simp; omega)]
      rfl
/-- Two numbers of a list change their places. -/
def swapL (o : List Int) (k i : Nat) : List Int := (o.set k (rd o i)).set i (rd o k)
theorem swapL_length (o : List Int) (k i : Nat) : (swapL o k i).length = o.length := by simp [swapL]
theorem swapL_perm {o : List Int} {k i : Nat} (hk : k < o.length) (hi : i < o.length) : (swapL o k i).Perm o := by
  have h1 : rd o i = o[i] := by simp [rd, hi]
  have h2 : rd o k = o[k] := by simp [rd, hk]
  unfold swapL
  rw [h1, h2]
  exact List.set_set_perm hk hi
theorem swapL_self {o : List Int} {k i : Nat} (hk : k < o.length) (hi : i < o.length) : swapL (swapL o k i) k i = o := by
  have h1 : ∀ {l : List Int} {j : Nat}, j < l.length → l[j]? = some (rd l j) := fun {l j} h => by simp [rd, h]
  refine List.ext_getElem? fun j => ?_
  simp only [swapL]
  by_cases e1 : i = k
  · subst e1
    by_cases e2 : i = j
    · subst e2
      simp [rd, hk]
    · simp [e2]
  · have r1 : rd ((o.set k (rd o i)).set i (rd o k)) i = rd o k := by simp [rd, hi]
    have r2 : rd ((o.set k (rd o i)).set i (rd o k)) k = rd o i := by
      have : ((o.set k (rd o i)).set i (rd o k))[k]? = some (rd o i) := by
        rw [List.getElem?_set_ne (by omega)]; simp [hk]
      simp only [rd, List.getD_eq_getElem?_getD, Int.toNat_natCast] at this ⊢
      rw [this]; rfl
    rw [r1, r2]
    by_cases e2 : i = j
    · subst e2
      simp [rd, hi]
    · by_cases e3 : k = j
      · subst e3
        rw [List.getElem?_set_ne e2]
        simp [rd, hk]
      · rw [List.getElem?_set_ne e2, List.getElem?_set_ne e3, List.getElem?_set_ne e2, List.getElem?_set_ne e3]
/-- The orders that come of a list whose first k numbers stay. -/
def ordO : Nat → Nat → List Int → List (List Int)
  | 0, _, o => [o]
  | r + 1, k, o => (List.range (r + 1)).flatMap fun j => ordO r (k + 1) (swapL o k (k + j))
def ordL (r k : Nat) (o : List Int) (i : Nat) : List (List Int) := (List.range i).flatMap fun j => ordO r (k + 1) (swapL o k (k + j))
theorem ordL_succ (r k : Nat) (o : List Int) (i : Nat) : ordL r k o (i + 1) = ordL r k o i ++ ordO r (k + 1) (swapL o k (k + i)) := by simp [ordL, List.range_succ]
theorem ordO_perm : ∀ (r k : Nat) (o : List Int), k + r = o.length → ∀ p ∈ ordO r k o, p.Perm o
  | 0, k, o, _, p, hp => by simp [ordO] at hp; rw [hp]
  | r + 1, k, o, h, p, hp => by
    simp only [ordO, List.mem_flatMap, List.mem_range] at hp
    obtain ⟨j, hj, hp⟩ := hp
    exact (ordO_perm r (k + 1) _ (by rw [swapL_length]; omega) p hp).trans (swapL_perm (by omega) (by omega))
theorem ordO_mem : ∀ (r k : Nat) (o : List Int), k + r = o.length → ∀ p : List Int, p.Perm o → p.take k = o.take k → p ∈ ordO r k o
  | 0, k, o, h, p, hp, ht => by
    have := hp.length_eq
    rw [List.take_of_length_le (by omega), List.take_of_length_le (by omega)] at ht
    simp [ordO, ht]
  | r + 1, k, o, h, p, hp, ht => by
    have hl := hp.length_eq
    have hk : k < p.length := by omega
    have hd : (p.drop k).Perm (o.drop k) := by
      have h1 : (o.take k ++ p.drop k).Perm (o.take k ++ o.drop k) := by
        rw [← ht, List.take_append_drop]
        rw [ht, List.take_append_drop]; exact hp
      exact (List.perm_append_left_iff _).1 h1
    have hx : p[k] ∈ o.drop k := hd.mem_iff.1 (by rw [List.mem_drop_iff_getElem]; exact ⟨0, by omega, rfl⟩)
    rw [List.mem_drop_iff_getElem] at hx
    obtain ⟨j, hj, hx⟩ := hx
    have hj2 : j < r + 1 := by omega
    simp only [ordO, List.mem_flatMap, List.mem_range]
    refine ⟨j, hj2, ordO_mem r (k + 1) _ (by rw [swapL_length]; omega) p (hp.trans (swapL_perm (by omega) (by omega)).symm) ?_⟩
    have t1 : p.take (k + 1) = p.take k ++ [p[k]] := by rw [List.take_succ_eq_append_getElem hk]
    have hkl : k < (swapL o k (k + j)).length := by rw [swapL_length]; omega
    have t2 : (swapL o k (k + j)).take (k + 1) = (swapL o k (k + j)).take k ++ [(swapL o k (k + j))[k]] := by rw [List.take_succ_eq_append_getElem hkl]
    have t3 : (swapL o k (k + j)).take k = o.take k := by
      unfold swapL
      rw [List.take_set_of_le (by omega), List.take_set_of_le (by omega)]
    have t4 : (swapL o k (k + j))[k] = p[k] := by
      rw [← hx]
      simp only [swapL]
      by_cases e : j = 0
      · subst e
        simp [rd, show k < o.length by omega, Nat.add_comm]
      · rw [List.getElem_set_ne (by omega)]
        simp [rd, show ((k : Int) + (j : Int)).toNat = k + j by omega, show k + j < o.length by omega]
    rw [t1, t2, t3, t4, ht]
theorem allP_mem : ∀ (n : Nat) (p : List Int), p.Perm (idP n) → p ∈ allP n
  | 0, p, h => by
    have : p = [] := h.eq_nil
    simp [this, allP]
  | n + 1, p, h => by
    have hm : (n : Int) ∈ p := h.mem_iff.2 (by rw [idP_succ]; simp)
    obtain ⟨a, b, rfl⟩ := List.append_of_mem hm
    have h2 : (a ++ b).Perm (idP n) := by
      have h3 : ((n : Int) :: (a ++ b)).Perm ((n : Int) :: idP n) := List.perm_middle.symm.trans (h.trans (by rw [idP_succ]; exact List.perm_append_singleton _ _))
      exact h3.cons_inv
    have h4 := allP_mem n _ h2
    have hl : (a ++ b).length = n := (allP_facts n).1 _ h4
    show _ ∈ (((allP n).take (allP n).length).flatMap fun q => rowK n q (q.length + 1))
    rw [List.take_length, List.mem_flatMap]
    refine ⟨_, h4, ?_⟩
    simp only [rowK, List.mem_map, List.mem_range]
    refine ⟨a.length, by simp at hl ⊢; omega, ?_⟩
    simp [insK]
/-- Both ways to the least form agree. -/
theorem least_eq {ll : List (List Int)} {n : Nat} (hn : 1 ≤ (allP n).length) : (ordO n 0 (idP n)).foldl (updB ll) none = some (leastF ll (allP n) (allP n).length) := by
  have hmem : ∀ p, p ∈ ordO n 0 (idP n) ↔ p ∈ allP n := fun p => ⟨fun h => allP_mem n p (ordO_perm n 0 _ (by rw [idP_length]; omega) p h), fun h => ordO_mem n 0 _ (by rw [idP_length]; omega) p (allP_perm n p h) (by simp)⟩
  have h0 : ∀ {l : List (List Int)}, 1 ≤ l.length → l ≠ [] := fun h e => by rw [e] at h; simp at h
  have h1 : ordO n 0 (idP n) ≠ [] := fun e => by
    cases hx : allP n with
    | nil => rw [hx] at hn; simp at hn
    | cons q l => have := (hmem q).2 (by rw [hx]; simp); rw [e] at this; cases this
  obtain ⟨m, e, hm⟩ := updB_none (ll := ll) h1
  obtain ⟨m', e', hm'⟩ := updB_none (ll := ll) (h0 hn)
  have e2 := leastF_upd (ll := ll) hn (Nat.le_refl _)
  rw [List.take_length] at e2
  rw [e, ← e2, e']
  refine congrArg some (IsMin.unique (S := fun x => ∃ p ∈ allP n, x = renF ll p ll.length) (fun x ⟨p, _, hx⟩ => ?_) ⟨?_, fun x hx => hm.le x ?_⟩ hm')
  · rw [hx]; exact renF_facts (ll := ll) (names := p) ll.length (Nat.le_refl _)
  · obtain ⟨p, hp, h⟩ := hm.mem; exact ⟨p, (hmem p).1 hp, h⟩
  · obtain ⟨p, hp, h⟩ := hx; exact ⟨p, (hmem p).2 hp, h⟩
end Go.Proofs.YtldjlonofclelaaTv
end
section
open Go Go.Proofs.YtldjlonofclelaaVe Go.Proofs.YtldjlonofclelaaTv Go.Proofs
namespace Go.Proofs.YtldjlonofclelaaTv
set_option maxRecDepth 8000
set_option maxHeartbeats 2000000
def EndsL (ll : List (List Int)) (n : Nat) : Prop := ∀ j : Nat, j < ll.length → (rdR ll j).length = 2 ∧ (0 ≤ rd (rdR ll j) 0 ∧ rd (rdR ll j) 0 < n) ∧ (0 ≤ rd (rdR ll j) 1 ∧ rd (rdR ll j) 1 < n)
def sA (ll : List (List Int)) (o : List Int) : List Obj := [.vars [.ill ll], .vars [.nil (.list (.int .i64))], .arr (.int .i64) o true]
def sB (ll : List (List Int)) (o : List Int) (b : List (List Int)) : List Obj := [.vars [.ill ll], .vars [.own 3 0 ll.length], .arr (.int .i64) o true, .arr (.list (.int .i64)) b true]
def sC (ll : List (List Int)) (o : List Int) (b b' : List (List Int)) : List Obj := [.vars [.ill ll], .vars [.own 4 0 ll.length], .arr (.int .i64) o true, .arr (.list (.int .i64)) b true, .arr (.list (.int .i64)) b' true]
theorem visA (ll : List (List Int)) (o : List Int) (hl : ll.length ≤ 9) (hr : EndsL ll o.length) : ConI Try.prog 134 [.own 2 0 o.length, .pcell 0 0, .pcell 1 0] (sA ll o) (.tup []) (sB ll o (renF ll o ll.length)) := by
  refine conI_of hmix hTab Try.func134 rfl rfl (by kernel_rfl) (by show 3 ≤ Try.f134.ntmps; decide) ?_
  refine stp ?_; try with_reducible exact True.intro
  refine useT (renamed ll o hl hr) ?_; try with_reducible exact True.intro
  exact (fitK [] [0, 1, 2, 3])
theorem visB (ll : List (List Int)) (o : List Int) (b : List (List Int)) (hl : ll.length ≤ 9) (hr : EndsL ll o.length) (ho : ∀ x ∈ o, 0 ≤ x ∧ x ≤ 1000) (hb : b.length = ll.length) (hs : Small b) : ConI Try.prog 134 [.own 2 0 o.length, .pcell 0 0, .pcell 1 0] (sB ll o b) (.tup []) (if cmpF (renF ll o ll.length) b < 0 then sC ll o b (renF ll o ll.length) else sB ll o b) := by
  refine conI_of hmix hTab Try.func134 rfl rfl (by kernel_rfl) (by show 3 ≤ Try.f134.ntmps; decide) ?_
  have hsm := Small_renF hr ho
  have hle := (renF_facts (ll := ll) (names := o) ll.length (Nat.le_refl _)).1
  refine stp ?_; try with_reducible exact True.intro
  refine useT (renamed ll o hl hr) ?_; try with_reducible exact True.intro
  refine useT ((compareRows (renF ll o ll.length) b (by rw [hle]; exact hl) (by rw [hle]; exact hb) hsm hs).toT) ?_; try with_reducible exact True.intro
  refine Br.mk (fun h1 => ?_) (fun h1 => ?_) <;> simp [-Int.ofNat_toNat] at h1
  · rw [if_pos h1]
    refine stp ?_; try with_reducible exact True.intro
    exact (fitK [] [0, 1, 2, 3, 4])
  · rw [if_neg (by omega)]
    refine stp ?_; try with_reducible exact True.intro
    exact (fitK [] [0, 1, 2, 3])
def fB (ll : List (List Int)) (c : Bool × List (List Int)) (o : List Int) : Bool × List (List Int) := if cmpF (renF ll o ll.length) c.2 < 0 then (true, renF ll o ll.length) else c
theorem fB_or (ll : List (List Int)) : ∀ (ps : List (List Int)) (fl : Bool) (c : List (List Int)), ps.foldl (fB ll) (fl, c) = (fl || (ps.foldl (fB ll) (false, c)).1, (ps.foldl (fB ll) (false, c)).2)
  | [], fl, c => by simp
  | p :: ps, fl, c => by
    simp only [List.foldl_cons, fB]
    split
    · rw [fB_or ll ps true]
      simp
    · exact fB_or ll ps fl c
theorem fB_upd (ll : List (List Int)) : ∀ (ps : List (List Int)) (fl : Bool) (c : List (List Int)), ps.foldl (updB ll) (some c) = some (ps.foldl (fB ll) (fl, c)).2
  | [], fl, c => rfl
  | p :: ps, fl, c => by
    simp only [List.foldl_cons, fB, updB]
    split
    · exact fB_upd ll ps true _
    · exact fB_upd ll ps fl c
theorem fB_shape {ll : List (List Int)} {n : Nat} (hr : EndsL ll n) (hn : n ≤ 1000) : ∀ (ps : List (List Int)) (fl : Bool) (c : List (List Int)), (∀ p ∈ ps, p.length = n ∧ ∀ x ∈ p, 0 ≤ x ∧ x ≤ 1000) → c.length = ll.length → Small c → (ps.foldl (fB ll) (fl, c)).2.length = ll.length ∧ Small (ps.foldl (fB ll) (fl, c)).2
  | [], _, c, _, h1, h2 => ⟨h1, h2⟩
  | p :: ps, fl, c, hp, h1, h2 => by
    have hp0 := hp p (by simp)
    simp only [List.foldl_cons, fB]
    split
    · exact fB_shape hr hn ps true _ (fun q hq => hp q (by simp [hq])) (renF_facts (ll := ll) (names := p) ll.length (Nat.le_refl _)).1 (Small_renF (by rw [hp0.1]; exact hr) hp0.2)
    · exact fB_shape hr hn ps fl c (fun q hq => hp q (by simp [hq])) h1 h2
def oA (ll : List (List Int)) (o : List Int) : List Obj := [.vars [.own 5 0 o.length], .vars [.fn 134 [.pcell 3 0, .pcell 4 0]], .vars [.fn 146 [.pcell 0 0, .pcell 1 0, .pcell 2 0]], .vars [.ill ll], .vars [.nil (.list (.int .i64))], .arr (.int .i64) o true]
def oB (ll : List (List Int)) (o : List Int) (b : List (List Int)) : List Obj := [.vars [.own 5 0 o.length], .vars [.fn 134 [.pcell 3 0, .pcell 4 0]], .vars [.fn 146 [.pcell 0 0, .pcell 1 0, .pcell 2 0]], .vars [.ill ll], .vars [.own 6 0 ll.length], .arr (.int .i64) o true, .arr (.list (.int .i64)) b true]
def oC (ll : List (List Int)) (o : List Int) (b b' : List (List Int)) : List Obj := [.vars [.own 5 0 o.length], .vars [.fn 134 [.pcell 3 0, .pcell 4 0]], .vars [.fn 146 [.pcell 0 0, .pcell 1 0, .pcell 2 0]], .vars [.ill ll], .vars [.own 7 0 ll.length], .arr (.int .i64) o true, .arr (.list (.int .i64)) b true, .arr (.list (.int .i64)) b' true]
def oD (ll : List (List Int)) (o : List Int) (b : List (List Int)) (c : Bool × List (List Int)) : List Obj := match c.1 with
  | true => oC ll o b c.2
  | false => oB ll o b
theorem fB_false (ll : List (List Int)) : ∀ (ps : List (List Int)) (c : List (List Int)), (ps.foldl (fB ll) (false, c)).1 = false → (ps.foldl (fB ll) (false, c)).2 = c
  | [], c, _ => rfl
  | p :: ps, c, h => by
    simp only [List.foldl_cons, fB] at h ⊢
    split at h
    · rw [fB_or ll ps true] at h
      simp at h
    · rename_i hc
      rw [if_neg hc]
      exact fB_false ll ps c h
theorem ordB (ll : List (List Int)) (n : Nat) (hn : n ≤ 1000) (hl : ll.length ≤ 9) (hr : EndsL ll n) : ∀ (r k : Nat) (o : List Int) (b : List (List Int)), k + r = o.length → o.length = n → (∀ x ∈ o, 0 ≤ x ∧ x ≤ 1000) → b.length = ll.length → Small b →
    ConI Try.prog 146 [.i k, .pcell 0 0, .pcell 1 0, .pcell 2 0] (oB ll o b) (.tup []) (oD ll o b ((ordO r k o).foldl (fB ll) (false, b))) := by
  intro r
  induction r with
  | zero =>
    intro k o b hk hol ho hb hs
    have hv := visB ll o b hl (by rw [hol]; exact hr) ho hb hs
    refine conI_of hmix hTab Try.func146 rfl rfl (by kernel_rfl) (by show 4 ≤ Try.f146.ntmps; decide) ?_
    refine stp ?_; try with_reducible exact True.intro
    refine Br.mk (fun h1 => ?_) (fun h1 => ?_) <;> simp [-Int.ofNat_toNat] at h1
    · simp only [ordO, List.foldl_cons, List.foldl_nil, fB]
      refine stp ?_; try with_reducible exact True.intro
      by_cases hc : cmpF (renF ll o ll.length) b < 0
      · rw [if_pos hc] at hv ⊢
        refine useI [3, 4, 5, 6] (hv) ?_; try with_reducible exact True.intro
        exact (fitK [] [0, 1, 2, 3, 4, 5, 6, 7])
      · rw [if_neg hc] at hv ⊢
        refine useI [3, 4, 5, 6] (hv) ?_; try with_reducible exact True.intro
        exact (fitK [] [0, 1, 2, 3, 4, 5, 6])
    · omega
  | succ r ih =>
    intro k o b hk hol ho hb hs
    have hps : ∀ i, k + i ≤ o.length → ∀ p ∈ ordL r k o i, p.length = n ∧ ∀ x ∈ p, 0 ≤ x ∧ x ≤ 1000 := fun i hi p hp => by
      simp only [ordL, List.mem_flatMap, List.mem_range] at hp
      obtain ⟨j, hj, hp⟩ := hp
      have h2 := (ordO_perm r (k + 1) _ (by rw [swapL_length]; omega) p hp).trans (swapL_perm (by omega) (by omega))
      exact ⟨h2.length_eq.trans hol, fun x hx => ho x (h2.mem_iff.1 hx)⟩
    refine conI_of hmix hTab Try.func146 rfl rfl (by kernel_rfl) (by show 4 ≤ Try.f146.ntmps; decide) ?_
    refine stp ?_; try with_reducible exact True.intro
    refine Br.mk (fun h1 => ?_) (fun h1 => ?_) <;> simp [-Int.ofNat_toNat] at h1
    · omega
    · refine stp ?_; try with_reducible exact True.intro
      refine ⟨Nat × Bool × List (List Int), fun a => (k ≤ a.1 ∧ a.1 ≤ o.length) ∧ a.2 = (ordL r k o (a.1 - k)).foldl (fB ll) (false, b), fun a => o.length - a.1, fun a => [(0, .i k), (1, .pcell 0 0), (2, .pcell 1 0), (3, .pcell 2 0), (5, .i a.1)], fun a => oD ll o b a.2, ⟨(k, false, b), (fitK [] [0, 1, 2, 3, 4, 5, 6]), by simp [ordL]; omega⟩, fun ⟨i, fl, c⟩ ⟨⟨hi1, hi2⟩, hc⟩ => ?_⟩
      dsimp only at hi1 hi2 hc ⊢
      have hsh := fB_shape hr hn (ordL r k o (i - k)) false b (hps _ (by omega)) hb hs
      rw [← hc] at hsh
      obtain ⟨hsh1, hsh2⟩ := hsh
      have hsl := swapL_length o k i
      have hos := ordL_succ r k o (i - k)
      rw [show k + (i - k) = i by omega] at hos
      have hnext : ((i + 1 - k : Nat)) = i - k + 1 := by omega
      cases fl with
      | true =>
        refine stp ?_; try with_reducible exact True.intro
        refine Br.mk (fun h2 => ?_) (fun h2 => ?_) <;> simp [-Int.ofNat_toNat] at h2
        · have hsw := swapL_perm (o := o) (k := k) (i := i) (by omega) h2
          have hss := swapL_self (o := o) (k := k) (i := i) (by omega) h2
          have hcall := ih (k + 1) (swapL o k i) c (by rw [hsl]; omega) (by rw [hsl]; exact hol) (fun x hx => ho x (hsw.mem_iff.1 hx)) hsh1 hsh2
          have hstep : (ordL r k o (i + 1 - k)).foldl (fB ll) (false, b) = (true, ((ordO r (k + 1) (swapL o k i)).foldl (fB ll) (false, c)).2) := by
            rw [hnext, hos, List.foldl_append, ← hc, fB_or]
            rfl
          have hfal := fB_false ll (ordO r (k + 1) (swapL o k i)) c
          rcases hx : (ordO r (k + 1) (swapL o k i)).foldl (fB ll) (false, c) with ⟨fl', c'⟩
          rw [hx] at hcall hstep hfal
          simp only [oB, hsl] at hcall
          refine stp ?_; try with_reducible exact True.intro
          cases fl' with
          | true =>
            simp only [oD, oC, hsl] at hcall
            refine .inr ⟨[0, 1, 2, 3, 4, 5, 7], _, _, _, _, hcall, by decide, by repeat (first | exact trivial | refine ⟨by first | rfl | (simp [Obj.ren, frzI, -Int.ofNat_toNat]; done) | (simp [Obj.ren, frzI, V.ren, V.rens, V.cells, EnvV.ev, EnvV.upd, mkE, backL, backN, -Int.ofNat_toNat]; done) | (simp [Obj.ren, frzI, -Int.ofNat_toNat]; omega), ?_⟩), rfl, .inr ⟨rfl, rfl⟩, ?_⟩
            refine stp ?_; try with_reducible exact True.intro
            refine ⟨(i + 1, true, c'), ⟨.frz [], [0, 1, 2, 3, 4, 5, 6, 8], ⟨rfl, rfl, rfl, rfl, rfl, trivial⟩, ⟨rfl, rfl, rfl, rfl, rfl, ?_, rfl, rfl, trivial⟩, by decide, rfl, rfl, rfl⟩, ⟨⟨by dsimp only; omega, h2⟩, hstep.symm⟩, by first | ((try dsimp only); omega) | (simp; omega)⟩
            show some (Obj.arr (.int .i64) (swapL (swapL o k i) k i) true) = _
            rw [hss]
            rfl
          | false =>
            obtain rfl : c' = c := hfal rfl
            simp only [oD, oB, hsl] at hcall
            refine .inr ⟨[0, 1, 2, 3, 4, 5, 7], _, _, _, _, hcall, by decide, by repeat (first | exact trivial | refine ⟨by first | rfl | (simp [Obj.ren, frzI, -Int.ofNat_toNat]; done) | (simp [Obj.ren, frzI, V.ren, V.rens, V.cells, EnvV.ev, EnvV.upd, mkE, backL, backN, -Int.ofNat_toNat]; done) | (simp [Obj.ren, frzI, -Int.ofNat_toNat]; omega), ?_⟩), rfl, .inr ⟨rfl, rfl⟩, ?_⟩
            refine stp ?_; try with_reducible exact True.intro
            refine ⟨(i + 1, true, c'), ⟨.frz [], [0, 1, 2, 3, 4, 5, 6, 7], ⟨rfl, rfl, rfl, rfl, rfl, trivial⟩, ⟨rfl, rfl, rfl, rfl, rfl, ?_, rfl, rfl, trivial⟩, by decide, rfl, rfl, rfl⟩, ⟨⟨by dsimp only; omega, h2⟩, hstep.symm⟩, by first | ((try dsimp only); omega) | (simp; omega)⟩
            show some (Obj.arr (.int .i64) (swapL (swapL o k i) k i) true) = _
            rw [hss]
            rfl
        · have hfin : (ordO (r + 1) k o).foldl (fB ll) (false, b) = (true, c) := by
            rw [show i - k = r + 1 by omega] at hc
            exact hc.symm
          rw [hfin]
          refine stp ?_; try with_reducible exact True.intro
          exact (fitK [] [0, 1, 2, 3, 4, 5, 6, 7])
      | false =>
        obtain rfl : c = b := by
          have := fB_false ll (ordL r k o (i - k)) b (by rw [← hc])
          rwa [← hc] at this
        refine stp ?_; try with_reducible exact True.intro
        refine Br.mk (fun h2 => ?_) (fun h2 => ?_) <;> simp [-Int.ofNat_toNat] at h2
        · have hsw := swapL_perm (o := o) (k := k) (i := i) (by omega) h2
          have hss := swapL_self (o := o) (k := k) (i := i) (by omega) h2
          have hcall := ih (k + 1) (swapL o k i) c (by rw [hsl]; omega) (by rw [hsl]; exact hol) (fun x hx => ho x (hsw.mem_iff.1 hx)) hsh1 hsh2
          have hstep : (ordL r k o (i + 1 - k)).foldl (fB ll) (false, c) = (ordO r (k + 1) (swapL o k i)).foldl (fB ll) (false, c) := by
            rw [hnext, hos, List.foldl_append, ← hc]
          have hfal := fB_false ll (ordO r (k + 1) (swapL o k i)) c
          rcases hx : (ordO r (k + 1) (swapL o k i)).foldl (fB ll) (false, c) with ⟨fl', c'⟩
          rw [hx] at hcall hstep hfal
          simp only [oB, hsl] at hcall
          refine stp ?_; try with_reducible exact True.intro
          cases fl' with
          | true =>
            simp only [oD, oC, hsl] at hcall
            refine .inr ⟨[0, 1, 2, 3, 4, 5, 6], _, _, _, _, hcall, by decide, by repeat (first | exact trivial | refine ⟨by first | rfl | (simp [Obj.ren, frzI, -Int.ofNat_toNat]; done) | (simp [Obj.ren, frzI, V.ren, V.rens, V.cells, EnvV.ev, EnvV.upd, mkE, backL, backN, -Int.ofNat_toNat]; done) | (simp [Obj.ren, frzI, -Int.ofNat_toNat]; omega), ?_⟩), rfl, .inr ⟨rfl, rfl⟩, ?_⟩
            refine stp ?_; try with_reducible exact True.intro
            refine ⟨(i + 1, true, c'), ⟨.frz [], [0, 1, 2, 3, 4, 5, 6, 7], ⟨rfl, rfl, rfl, rfl, rfl, trivial⟩, ⟨rfl, rfl, rfl, rfl, rfl, ?_, rfl, rfl, trivial⟩, by decide, rfl, rfl, rfl⟩, ⟨⟨by dsimp only; omega, h2⟩, hstep.symm⟩, by first | ((try dsimp only); omega) | (simp; omega)⟩
            show some (Obj.arr (.int .i64) (swapL (swapL o k i) k i) true) = _
            rw [hss]
            rfl
          | false =>
            obtain rfl : c' = c := hfal rfl
            simp only [oD, oB, hsl] at hcall
            refine .inr ⟨[0, 1, 2, 3, 4, 5, 6], _, _, _, _, hcall, by decide, by repeat (first | exact trivial | refine ⟨by first | rfl | (simp [Obj.ren, frzI, -Int.ofNat_toNat]; done) | (simp [Obj.ren, frzI, V.ren, V.rens, V.cells, EnvV.ev, EnvV.upd, mkE, backL, backN, -Int.ofNat_toNat]; done) | (simp [Obj.ren, frzI, -Int.ofNat_toNat]; omega), ?_⟩), rfl, .inr ⟨rfl, rfl⟩, ?_⟩
            refine stp ?_; try with_reducible exact True.intro
            refine ⟨(i + 1, false, c'), ⟨.frz [], [0, 1, 2, 3, 4, 5, 6], ⟨rfl, rfl, rfl, rfl, rfl, trivial⟩, ⟨rfl, rfl, rfl, rfl, rfl, ?_, rfl, trivial⟩, by decide, rfl, rfl, rfl⟩, ⟨⟨by dsimp only; omega, h2⟩, hstep.symm⟩, by first | ((try dsimp only); omega) | (simp; omega)⟩
            show some (Obj.arr (.int .i64) (swapL (swapL o k i) k i) true) = _
            rw [hss]
            rfl
        · have hfin : (ordO (r + 1) k o).foldl (fB ll) (false, c) = (false, c) := by
            rw [show i - k = r + 1 by omega] at hc
            exact hc.symm
          rw [hfin]
          refine stp ?_; try with_reducible exact True.intro
          exact (fitK [] [0, 1, 2, 3, 4, 5, 6])
theorem ordA (ll : List (List Int)) (n : Nat) (hn : n ≤ 1000) (hl : ll.length ≤ 9) (hr : EndsL ll n) : ∀ (r k : Nat) (o : List Int), k + r = o.length → o.length = n → (∀ x ∈ o, 0 ≤ x ∧ x ≤ 1000) →
    ∃ b, (ordO r k o).foldl (updB ll) none = some b ∧ b.length = ll.length ∧ Small b ∧ ConI Try.prog 146 [.i k, .pcell 0 0, .pcell 1 0, .pcell 2 0] (oA ll o) (.tup []) (oB ll o b) := by
  intro r
  induction r with
  | zero =>
    intro k o hk hol ho
    have hv := visA ll o hl (by rw [hol]; exact hr)
    refine ⟨_, rfl, (renF_facts (ll := ll) (names := o) ll.length (Nat.le_refl _)).1, Small_renF (by rw [hol]; exact hr) ho, ?_⟩
    refine conI_of hmix hTab Try.func146 rfl rfl (by kernel_rfl) (by show 4 ≤ Try.f146.ntmps; decide) ?_
    refine stp ?_; try with_reducible exact True.intro
    refine Br.mk (fun h1 => ?_) (fun h1 => ?_) <;> simp [-Int.ofNat_toNat] at h1
    · refine stp ?_; try with_reducible exact True.intro
      refine useI [3, 4, 5] (hv) ?_; try with_reducible exact True.intro
      exact (fitK [] [0, 1, 2, 3, 4, 5, 6])
    · omega
  | succ r ih =>
    intro k o hk hol ho
    have hps : ∀ i, k + i ≤ o.length → ∀ p ∈ ordL r k o i, p.length = n ∧ ∀ x ∈ p, 0 ≤ x ∧ x ≤ 1000 := fun i hi p hp => by
      simp only [ordL, List.mem_flatMap, List.mem_range] at hp
      obtain ⟨j, hj, hp⟩ := hp
      have h2 := (ordO_perm r (k + 1) _ (by rw [swapL_length]; omega) p hp).trans (swapL_perm (by omega) (by omega))
      exact ⟨h2.length_eq.trans hol, fun x hx => ho x (h2.mem_iff.1 hx)⟩
    have hord : ∀ i, k ≤ i → ordL r k o (i + 1 - k) = ordL r k o (i - k) ++ ordO r (k + 1) (swapL o k i) := fun i hi => by
      have hos := ordL_succ r k o (i - k)
      rw [show k + (i - k) = i by omega] at hos
      rw [show i + 1 - k = i - k + 1 by omega]; exact hos
    have hsl := fun i => swapL_length o k i
    have hsw : ∀ i, i < o.length → (swapL o k i).Perm o := fun i hi => swapL_perm (o := o) (k := k) (i := i) (by omega) hi
    -- every list but the first
    have hex : ∀ i, k < i → i ≤ o.length → ∃ c, (ordL r k o (i - k)).foldl (updB ll) none = some c ∧ c.length = ll.length ∧ Small c := fun i => by
      induction i with
      | zero => intro h; omega
      | succ i ihi =>
        intro h1 h2
        rw [hord i (by omega), List.foldl_append]
        by_cases hik : k < i
        · obtain ⟨c, e, c1, c2⟩ := ihi hik (by omega)
          rw [e, fB_upd ll _ false]
          obtain ⟨d1, d2⟩ := fB_shape hr hn (ordO r (k + 1) (swapL o k i)) false c (fun p hp => by
            have h3 := (ordO_perm r (k + 1) _ (by rw [hsl]; omega) p hp).trans (hsw i (by omega))
            exact ⟨h3.length_eq.trans hol, fun x hx => ho x (h3.mem_iff.1 hx)⟩) c1 c2
          exact ⟨_, rfl, d1, d2⟩
        · obtain rfl : i = k := by omega
          rw [Nat.sub_self]
          obtain ⟨b, e, b1, b2, _⟩ := ih (i + 1) (swapL o i i) (by rw [hsl]; omega) (by rw [hsl]; exact hol) (fun x hx => ho x ((hsw i (by omega)).mem_iff.1 hx))
          exact ⟨b, e, b1, b2⟩
    obtain ⟨b, hb, hb1, hb2⟩ := hex o.length (by omega) (Nat.le_refl _)
    refine ⟨b, by rw [← hb, show o.length - k = r + 1 by omega]; rfl, hb1, hb2, ?_⟩
    refine conI_of hmix hTab Try.func146 rfl rfl (by kernel_rfl) (by show 4 ≤ Try.f146.ntmps; decide) ?_
    refine stp ?_; try with_reducible exact True.intro
    refine Br.mk (fun h1 => ?_) (fun h1 => ?_) <;> simp [-Int.ofNat_toNat] at h1
    · omega
    · refine stp ?_; try with_reducible exact True.intro
      refine ⟨Nat × Option (List (List Int)), fun a => (k ≤ a.1 ∧ a.1 ≤ o.length) ∧ a.2 = (ordL r k o (a.1 - k)).foldl (updB ll) none, fun a => o.length - a.1, fun a => [(0, .i k), (1, .pcell 0 0), (2, .pcell 1 0), (3, .pcell 2 0), (5, .i a.1)], fun a => match a.2 with | none => oA ll o | some c => oB ll o c, ⟨(k, none), (fitK [] [0, 1, 2, 3, 4, 5]), by simp [ordL]; omega⟩, fun ⟨i, oc⟩ ⟨⟨hi1, hi2⟩, hc⟩ => ?_⟩
      dsimp only at hi1 hi2 hc ⊢
      cases oc with
      | none =>
        have hik : i = k := by
          by_cases h : k < i
          · obtain ⟨c, e, _⟩ := hex i h hi2
            rw [e] at hc; cases hc
          · omega
        subst hik
        have hsl0 := hsl i
        refine stp ?_; try with_reducible exact True.intro
        refine Br.mk (fun h2 => ?_) (fun h2 => ?_) <;> simp [-Int.ofNat_toNat] at h2
        · have hss := swapL_self (o := o) (k := i) (i := i) (by omega) h2
          obtain ⟨c', e, b1, b2, hcall⟩ := ih (i + 1) (swapL o i i) (by rw [hsl]; omega) (by rw [hsl]; exact hol) (fun x hx => ho x ((hsw i (by omega)).mem_iff.1 hx))
          have hstep : (ordL r i o (i + 1 - i)).foldl (updB ll) none = some c' := by
            rw [hord i (by omega), List.foldl_append, Nat.sub_self]; exact e
          simp only [oA, oB, hsl] at hcall
          refine stp ?_; try with_reducible exact True.intro
          refine .inr ⟨[0, 1, 2, 3, 4, 5], _, _, _, _, hcall, by decide, by repeat (first | exact trivial | refine ⟨by first | rfl | (simp [Obj.ren, frzI, -Int.ofNat_toNat]; done) | (simp [Obj.ren, frzI, V.ren, V.rens, V.cells, EnvV.ev, EnvV.upd, mkE, backL, backN, -Int.ofNat_toNat]; done) | (simp [Obj.ren, frzI, -Int.ofNat_toNat]; omega), ?_⟩), rfl, .inr ⟨rfl, rfl⟩, ?_⟩
          refine stp ?_; try with_reducible exact True.intro
          refine ⟨(i + 1, some c'), ⟨.frz [], [0, 1, 2, 3, 4, 5, 6], ⟨rfl, rfl, rfl, rfl, rfl, trivial⟩, ⟨rfl, rfl, rfl, rfl, rfl, ?_, rfl, trivial⟩, by decide, rfl, rfl, rfl⟩, ⟨⟨by dsimp only; omega, h2⟩, hstep.symm⟩, by first | ((try dsimp only); omega) | (simp; omega)⟩
          show some (Obj.arr (.int .i64) (swapL (swapL o i i) i i) true) = _
          rw [hss]
          rfl
        · omega
      | some c =>
        have hik : k < i := by
          by_cases h : k < i
          · exact h
          · rw [show i - k = 0 by omega] at hc
            cases hc
        obtain ⟨c0, e0, c1, c2⟩ := hex i hik hi2
        obtain rfl : c0 = c := by rw [e0] at hc; injection hc with hc; exact hc.symm
        have hsl0 := hsl i
        refine stp ?_; try with_reducible exact True.intro
        refine Br.mk (fun h2 => ?_) (fun h2 => ?_) <;> simp [-Int.ofNat_toNat] at h2
        · have hss := swapL_self (o := o) (k := k) (i := i) (by omega) h2
          have hcall := ordB ll n hn hl hr r (k + 1) (swapL o k i) c0 (by rw [hsl]; omega) (by rw [hsl]; exact hol) (fun x hx => ho x ((hsw i h2).mem_iff.1 hx)) c1 c2
          have hstep : (ordL r k o (i + 1 - k)).foldl (updB ll) none = some ((ordO r (k + 1) (swapL o k i)).foldl (fB ll) (false, c0)).2 := by
            rw [hord i (by omega), List.foldl_append, e0, fB_upd ll _ false]
          have hfal := fB_false ll (ordO r (k + 1) (swapL o k i)) c0
          rcases hx : (ordO r (k + 1) (swapL o k i)).foldl (fB ll) (false, c0) with ⟨fl', c'⟩
          rw [hx] at hcall hstep hfal
          simp only [oB, hsl] at hcall
          refine stp ?_; try with_reducible exact True.intro
          cases fl' with
          | true =>
            simp only [oD, oC, hsl] at hcall
            refine .inr ⟨[0, 1, 2, 3, 4, 5, 6], _, _, _, _, hcall, by decide, by repeat (first | exact trivial | refine ⟨by first | rfl | (simp [Obj.ren, frzI, -Int.ofNat_toNat]; done) | (simp [Obj.ren, frzI, V.ren, V.rens, V.cells, EnvV.ev, EnvV.upd, mkE, backL, backN, -Int.ofNat_toNat]; done) | (simp [Obj.ren, frzI, -Int.ofNat_toNat]; omega), ?_⟩), rfl, .inr ⟨rfl, rfl⟩, ?_⟩
            refine stp ?_; try with_reducible exact True.intro
            refine ⟨(i + 1, some c'), ⟨.frz [], [0, 1, 2, 3, 4, 5, 7], ⟨rfl, rfl, rfl, rfl, rfl, trivial⟩, ⟨rfl, rfl, rfl, rfl, rfl, ?_, rfl, trivial⟩, by decide, rfl, rfl, rfl⟩, ⟨⟨by dsimp only; omega, h2⟩, hstep.symm⟩, by first | ((try dsimp only); omega) | (simp; omega)⟩
            show some (Obj.arr (.int .i64) (swapL (swapL o k i) k i) true) = _
            rw [hss]
            rfl
          | false =>
            obtain rfl : c' = c0 := hfal rfl
            simp only [oD, oB, hsl] at hcall
            refine .inr ⟨[0, 1, 2, 3, 4, 5, 6], _, _, _, _, hcall, by decide, by repeat (first | exact trivial | refine ⟨by first | rfl | (simp [Obj.ren, frzI, -Int.ofNat_toNat]; done) | (simp [Obj.ren, frzI, V.ren, V.rens, V.cells, EnvV.ev, EnvV.upd, mkE, backL, backN, -Int.ofNat_toNat]; done) | (simp [Obj.ren, frzI, -Int.ofNat_toNat]; omega), ?_⟩), rfl, .inr ⟨rfl, rfl⟩, ?_⟩
            refine stp ?_; try with_reducible exact True.intro
            refine ⟨(i + 1, some c'), ⟨.frz [], [0, 1, 2, 3, 4, 5, 6], ⟨rfl, rfl, rfl, rfl, rfl, trivial⟩, ⟨rfl, rfl, rfl, rfl, rfl, ?_, rfl, trivial⟩, by decide, rfl, rfl, rfl⟩, ⟨⟨by dsimp only; omega, h2⟩, hstep.symm⟩, by first | ((try dsimp only); omega) | (simp; omega)⟩
            show some (Obj.arr (.int .i64) (swapL (swapL o k i) k i) true) = _
            rw [hss]
            rfl
        · obtain rfl : i = o.length := by omega
          obtain rfl : c0 = b := by rw [e0] at hb; injection hb
          refine stp ?_; try with_reducible exact True.intro
          exact (fitK [] [0, 1, 2, 3, 4, 5, 6])
theorem orders (ll : List (List Int)) (n : Nat) (hn : n ≤ 1000) (hl : ll.length ≤ 9) (hr : EndsL ll n) (p : List Int) (hp : p.length = n) (ho : ∀ x ∈ p, 0 ≤ x ∧ x ≤ 1000) : ∃ b, (ordO n 0 p).foldl (updB ll) none = some b ∧ b.length = ll.length ∧ Small b ∧
    ConI Try.prog 132 [.own 2 0 n, .fn 134 [.pcell 0 0, .pcell 1 0]] [.vars [.ill ll], .vars [.nil (.list (.int .i64))], .arr (.int .i64) p true] (.tup []) [.vars [.ill ll], .vars [.own 3 0 ll.length], .arr (.int .i64) p true, .arr (.list (.int .i64)) b true] := by
  obtain ⟨b, h1, h2, h3, h4⟩ := ordA ll n hn hl hr n 0 p (by omega) hp ho
  refine ⟨b, h1, h2, h3, ?_⟩
  subst hp
  simp only [oA, oB] at h4
  refine conI_of hmix hTab Try.func132 rfl rfl (by kernel_rfl) (by show 2 ≤ Try.f132.ntmps; decide) ?_
  refine stp ?_; try with_reducible exact True.intro
  refine useT (copyOf p (by omega)) ?_; try with_reducible exact True.intro
  refine .inr ⟨[6, 3, 4, 0, 1, 5], _, _, _, _, h4, by decide, by repeat (first | exact trivial | refine ⟨by first | rfl | (simp [Obj.ren, frzI, -Int.ofNat_toNat]; done) | (simp [Obj.ren, frzI, V.ren, V.rens, V.cells, EnvV.ev, EnvV.upd, mkE, backL, backN, -Int.ofNat_toNat]; done) | (simp [Obj.ren, frzI, -Int.ofNat_toNat]; omega), ?_⟩), rfl, .inr ⟨rfl, rfl⟩, ?_⟩
  refine stp ?_; try with_reducible exact True.intro
  exact (fitK [] [0, 1, 2, 7])
end Go.Proofs.YtldjlonofclelaaTv
end
section
open Go Go.Proofs.YtldjlonofclelaaVe Go.Proofs.YtldjlonofclelaaTv Go.Proofs
namespace Go.Proofs.YtldjlonofclelaaTv
set_option maxRecDepth 8000
set_option maxHeartbeats 2000000
theorem idP_small (n : Nat) (hn : n ≤ 6) : ∀ x ∈ idP n, 0 ≤ x ∧ x ≤ 1000 := fun x hx => by
  simp only [idP, List.mem_map, List.mem_range] at hx
  obtain ⟨j, hj, rfl⟩ := hx
  omega
def leastP (g : Int) (ll : List (List Int)) : List (List Int) := leastF ll (allP (2 * g - 2).toNat) (allP (2 * g - 2).toNat).length
theorem LeastPantsI {g : Int} {ll : List (List Int)} (hll : (ll.length : Int) ≤ 1048576) (h : isPants g ll = true) : ConT Try.prog 106 [.i g, .ill ll] (.own 0 0 ll.length) [.arr (.list (.int .i64)) (leastP g ll) true] := by
  obtain ⟨n, hn, _, hn6, _, _, hl9, hrow⟩ := pants_facts h
  have hends : EndsL ll n := fun j hj => ends_of hrow j hj
  have ha := ((allP_facts n).2 hn6).2
  obtain ⟨b, h1, h2, h3, h4⟩ := orders ll n (by omega) hl9 hends (idP n) (idP_length n) (idP_small n hn6)
  have hb : b = leastP g ll := by
    rw [least_eq ha] at h1
    injection h1 with h1
    rw [← h1, leastP, show (2 * g - 2).toNat = n by omega]
  subst hb
  refine conT_of hmix hTab Try.func106 rfl rfl (by kernel_rfl) (by show 2 ≤ Try.f106.ntmps; decide) ?_
  refine stp ?_; try with_reducible exact True.intro
  refine useT ((IsPantsI g ll hll).toT) ?_; try with_reducible exact True.intro
  refine brF (by rw [h]; rfl) ?_
  refine stp ?_; try with_reducible exact True.intro
  rw [hn]
  refine useT (identity n (by omega)) ?_; try with_reducible exact True.intro
  refine useI [0, 1, 2] (h4) ?_; try with_reducible exact True.intro
  exact (fitK [] [3])
theorem LeastPantsI0 {g : Int} {ll : List (List Int)} (hll : (ll.length : Int) ≤ 1048576) (h : isPants g ll = false) : ConT Try.prog 106 [.i g, .ill ll] (.nil .unit) [] := by
  refine conT_of hmix hTab Try.func106 rfl rfl (by kernel_rfl) (by show 2 ≤ Try.f106.ntmps; decide) ?_
  refine stp ?_; try with_reducible exact True.intro
  refine useT ((IsPantsI g ll hll).toT) ?_; try with_reducible exact True.intro
  refine brT (by rw [h]; rfl) ?_
  refine stp ?_; try with_reducible exact True.intro
  exact (fitK [] [])
end Go.Proofs.YtldjlonofclelaaTv
end
section
open Go Go.Proofs.YtldjlonofclelaaVe Go.Proofs.YtldjlonofclelaaTv Go.Proofs
namespace Go.Proofs.YtldjlonofclelaaTv
set_option maxRecDepth 8000
set_option maxHeartbeats 2000000
theorem leastF_facts (ll ps : List (List Int)) : ∀ i, 1 ≤ i → i ≤ ps.length → (leastF ll ps i).length = ll.length ∧ Prs (leastF ll ps i) := fun i => by
  induction i with
  | zero => intro h; omega
  | succ i ih =>
    intro h1 h2
    have hr := fun p => renF_facts (ll := ll) (names := p) ll.length (Nat.le_refl _)
    by_cases hi : 1 ≤ i
    · rw [leastF_succ h2 hi]
      split
      · exact hr _
      · exact ih hi (by omega)
    · obtain rfl : i = 0 := by omega
      unfold leastF
      rw [show ((ps.take (0 + 1)).drop 1) = [] from List.drop_eq_nil_of_le (by simp; omega)]
      exact hr _
theorem leastP_facts {g : Int} {ll : List (List Int)} (h : isPants g ll = true) : (leastP g ll).length = ll.length ∧ Prs (leastP g ll) := by
  obtain ⟨n, hn, _, hn6, _⟩ := pants_facts h
  exact leastF_facts _ _ _ ((allP_facts _).2 (by omega)).2 (Nat.le_refl _)
end Go.Proofs.YtldjlonofclelaaTv
end
section
open Go Go.Proofs.YtldjlonofclelaaVe Go.Proofs.YtldjlonofclelaaTv Go.Proofs
namespace Go.Proofs.YtldjlonofclelaaTv
set_option maxRecDepth 8000
set_option maxHeartbeats 2000000
/-- How often a number stands in the rows. -/
def occ (v : Int) : List (List Int) → Nat
  | [] => 0
  | r :: l => (if v = rd r 0 then 1 else 0) + (if v = rd r 1 then 1 else 0) + occ v l
theorem occ_append (v : Int) : ∀ (l m : List (List Int)), occ v (l ++ m) = occ v l + occ v m
  | [], m => by simp [occ]
  | r :: l, m => by simp only [List.cons_append, occ, occ_append v l m]; omega
theorem occ_perm {v : Int} {l m : List (List Int)} (h : l.Perm m) : occ v l = occ v m := by
  induction h with
  | nil => rfl
  | cons x _ ih => simp only [occ, ih]
  | swap x y l => simp only [occ]; omega
  | trans _ _ h1 h2 => exact h1.trans h2
theorem occ_cnt {n : Nat} {ll : List (List Int)} (v : Int) (hv : 0 ≤ v ∧ v < n) (hok : ∀ j : Nat, j < ll.length → rowOk n (rdR ll j) = true) : ∀ k, k ≤ ll.length → rd (cnt n ll k) v = occ v (ll.take k)
  | 0, _ => by
    simp only [cnt, List.take_zero, List.foldl_nil, rd, List.getD_eq_getElem?_getD, List.getElem?_replicate, occ]
    split <;> simp
  | k + 1, h => by
    have ih := occ_cnt v hv hok k (by omega)
    obtain ⟨r1, r2, r3, r4⟩ := rowOk_facts (hok k (by omega))
    have hl := cnt_length n ll k
    rw [cnt_succ (by omega), rd_bumpE hl ⟨r2, r3, r4⟩ hv.1, take_succR (by omega), occ_append, ih]
    simp only [occ]
    split <;> split <;> simp <;> omega
/-- A pants graph, told without lists of classes: what is alike at both ends of each edge is alike everywhere. -/
structure PG (g : Int) (n : Nat) (ll : List (List Int)) : Prop where
  g2 : 2 ≤ g ∧ g ≤ 4
  hn : 2 * g - 2 = n
  len : (ll.length : Int) = 3 * g - 3
  row : ∀ r ∈ ll, rowOk n r = true
  three : ∀ v : Int, 0 ≤ v → v < n → occ v ll = 3
  conn : ∀ h : Int → Int, (∀ r ∈ ll, h (rd r 0) = h (rd r 1)) → ∀ x y, InR n x → InR n y → h x = h y
theorem mem_rdR {ll : List (List Int)} {r : List Int} (h : r ∈ ll) : ∃ j : Nat, j < ll.length ∧ rdR ll j = r := by
  obtain ⟨j, hj⟩ := List.mem_iff_getElem?.1 h
  have h1 := (List.getElem?_eq_some_iff.1 hj).1
  exact ⟨j, h1, by simp [rdR, hj]⟩
theorem rdR_mem {ll : List (List Int)} {j : Nat} (h : j < ll.length) : rdR ll j ∈ ll := by simp [rdR, h]
theorem jl_const {ll : List (List Int)} {h : Int → Int} (hh : ∀ r ∈ ll, h (rd r 0) = h (rd r 1)) : ∀ k, k ≤ ll.length → ∀ x y, jl (-1) ll k x = jl (-1) ll k y → h x = h y
  | 0, _, x, y, e => by simp [jl] at e; rw [e]
  | k + 1, hk, x, y, e => by
    have ih := jl_const hh k (by omega)
    have he := hh _ (rdR_mem (show k < ll.length by omega))
    rw [jl, if_neg (by omega)] at e
    rcases joinF_ker.1 e with e | ⟨e1, e2⟩ | ⟨e1, e2⟩
    · exact ih x y e
    · rw [ih _ _ e1, he, ← ih _ _ e2]
    · rw [ih _ _ e1, ← he, ← ih _ _ e2]
theorem jl_edge {ll : List (List Int)} : ∀ k, k ≤ ll.length → ∀ j : Nat, j < k → jl (-1) ll k (rd (rdR ll j) 0) = jl (-1) ll k (rd (rdR ll j) 1)
  | 0, _, j, h => by omega
  | k + 1, hk, j, hj => by
    rw [jl, if_neg (by omega)]
    rw [joinF_ker]
    by_cases e : j = k
    · subst e
      exact .inr (.inl ⟨rfl, rfl⟩)
    · exact .inl (jl_edge k (by omega) j (by omega))
theorem pants_iff {g : Int} {n : Nat} (hn : 2 * g - 2 = n) {ll : List (List Int)} : isPants g ll = true ↔ PG g n ll := by
  constructor
  · intro h
    obtain ⟨n', hn', n2, n6, hg, hlen, hl9, hok⟩ := pants_facts h
    obtain rfl : n' = n := by omega
    have hE := ends_of hok
    refine ⟨hg, hn, hlen, fun r hr => ?_, fun v h0 h1 => ?_, fun f hf x y hx hy => ?_⟩
    · obtain ⟨j, hj, rfl⟩ := mem_rdR hr
      exact hok j hj
    · have h3 := pants_count h hn v ⟨h0, h1⟩
      rw [occ_cnt v ⟨h0, h1⟩ hok _ (Nat.le_refl _), List.take_length] at h3
      omega
    · refine jl_const hf ll.length (Nat.le_refl _) x y ?_
      obtain ⟨up, hF⟩ := fo_jl (skip := -1) hE ll.length (Nat.le_refl _)
      simp only [isPants, Bool.and_eq_true, decide_eq_true_eq] at h
      have h1 := h.2.2.2.2
      rw [show (2 * g - 2).toNat = n' by omega] at h1
      have hm : ∀ x, InR n' x → jl (-1) ll ll.length x ∈ rootsOf n' (jl (-1) ll ll.length) := fun x hx => by
        simp only [rootsOf, List.mem_filter, beq_iff_eq]
        exact ⟨mem_ints.2 (hF.rng x hx), hF.idem hx⟩
      have a := hm x hx
      have b := hm y hy
      obtain ⟨c, hc⟩ := List.length_eq_one_iff.1 h1
      rw [hc] at a b
      simp at a b
      rw [a, b]
  · intro h
    have hok : ∀ j : Nat, j < ll.length → rowOk n (rdR ll j) = true := fun j hj => h.row _ (rdR_mem hj)
    have hE := ends_of hok
    have hg := h.g2
    obtain ⟨up, hF⟩ := fo_jl (skip := -1) hE ll.length (Nat.le_refl _)
    simp only [isPants, Bool.and_eq_true, decide_eq_true_eq, List.all_eq_true]
    rw [show (2 * g - 2).toNat = n by omega, hn]
    refine ⟨hg, h.len, h.row, fun c hc => ?_, ?_⟩
    · obtain ⟨v, hv⟩ := List.mem_iff_getElem?.1 hc
      have hv1 : v < n := by
        have := (List.getElem?_eq_some_iff.1 hv).1
        rwa [cnt_length] at this
      have h1 := occ_cnt (v : Int) ⟨by omega, by omega⟩ hok _ (Nat.le_refl _)
      rw [List.take_length, h.three v (by omega) (by omega)] at h1
      have : rd (cnt n ll ll.length) v = c := by simp [rd, hv]
      omega
    · have hconst := h.conn (jl (-1) ll ll.length) fun r hr => by
        obtain ⟨j, hj, rfl⟩ := mem_rdR hr
        exact jl_edge ll.length (Nat.le_refl _) j hj
      have h0 : InR n 0 := ⟨by omega, by omega⟩
      have : (rootsOf n (jl (-1) ll ll.length)).length ≤ [jl (-1) ll ll.length 0].length := len_le_of_sub _ _ ((nodup_ints n).filter _) fun x hx => by
        simp only [rootsOf, List.mem_filter, beq_iff_eq, mem_ints] at hx
        rw [List.mem_singleton, ← hconst x 0 hx.1 h0, hx.2]
      have := roots_pos hF (by omega)
      simp only [List.length_cons, List.length_nil] at *
      omega
/-- A pants graph with other names. -/
theorem insP_perm (out : List (List Int)) (own : List Int) : (insP out own).Perm (own :: out) := by
  unfold insP
  exact List.perm_middle.trans (by rw [List.take_append_drop])
theorem renF_perm (ll : List (List Int)) (names : List Int) : (renF ll names ll.length).Perm (ll.map (pairN names)) := by
  have : ∀ (l acc : List (List Int)), (l.foldl (fun out e => insP out (pairN names e)) acc).Perm (acc ++ l.map (pairN names)) := fun l => by
    induction l with
    | nil => intro acc; simp
    | cons e l ih =>
      intro acc
      rw [List.foldl_cons, List.map_cons]
      refine (ih _).trans ?_
      exact ((insP_perm acc _).append_right _).trans List.perm_middle.symm
  unfold renF
  rw [List.take_length]
  simpa using this ll []
theorem ren_pants {g : Int} {n : Nat} {ll : List (List Int)} (h : PG g n ll) {p : List Int} (hp : p.Perm (idP n)) : PG g n (renF ll p ll.length) := by
  have hperm := renF_perm ll p
  have hlen : p.length = n := by rw [hp.length_eq, idP_length]
  have hmem : ∀ x : Int, x ∈ p ↔ 0 ≤ x ∧ x < n := fun x => by
    rw [hp.mem_iff]
    simp only [idP, List.mem_map, List.mem_range]
    constructor
    · rintro ⟨j, hj, rfl⟩; omega
    · rintro ⟨h0, h1⟩; exact ⟨x.toNat, by omega, by omega⟩
  have hnd : p.Nodup := by
    rw [hp.nodup_iff]
    unfold idP
    refine List.Pairwise.map _ (fun (a b : Nat) h => ?_) List.nodup_range
    omega
  have hrng : ∀ x, InR n x → InR n (rd p x) := fun x hx => (hmem _).1 (rd_memP hx.1 (by rw [hlen]; exact hx.2))
  have hinj : ∀ x y, InR n x → InR n y → rd p x = rd p y → x = y := fun x y hx hy e => by
    have hx1 : x.toNat < p.length := by have := hx.1; have := hx.2; omega
    have hy1 : y.toNat < p.length := by have := hy.1; have := hy.2; omega
    have e1 : p[x.toNat] = p[y.toNat] := by simpa [rd, hx1, hy1] using e
    have := (List.getElem_inj hnd).1 e1
    have := hx.1; have := hy.1
    omega
  have hsur : ∀ v, InR n v → ∃ x, InR n x ∧ rd p x = v := fun v hv => by
    obtain ⟨j, hj⟩ := List.mem_iff_getElem?.1 ((hmem v).2 hv)
    have h1 := (List.getElem?_eq_some_iff.1 hj).1
    exact ⟨j, ⟨by omega, by omega⟩, by simp [rd, hj]⟩
  have hends : ∀ r ∈ ll, InR n (rd r 0) ∧ InR n (rd r 1) := fun r hr => by
    obtain ⟨_, r2, r3, r4⟩ := rowOk_facts (h.row r hr)
    exact ⟨⟨r2, by omega⟩, ⟨by omega, r4⟩⟩
  refine ⟨h.g2, h.hn, ?_, fun r hr => ?_, fun v h0 h1 => ?_, fun f hf x y hx hy => ?_⟩
  · rw [(renF_facts (ll := ll) (names := p) ll.length (Nat.le_refl _)).1]; exact h.len
  · obtain ⟨e, he, rfl⟩ := List.mem_map.1 (hperm.mem_iff.1 hr)
    obtain ⟨e1, e2⟩ := hends e he
    have b1 := hrng _ e1
    have b2 := hrng _ e2
    have c1 := b1.1; have c2 := b1.2; have c3 := b2.1; have c4 := b2.2
    have m0 : rd (pairN p e) 0 = min (rd p (rd e 0)) (rd p (rd e 1)) := rfl
    have m1 : rd (pairN p e) 1 = max (rd p (rd e 0)) (rd p (rd e 1)) := rfl
    have ml : (pairN p e).length = 2 := rfl
    simp only [rowOk, Bool.and_eq_true, decide_eq_true_eq, m0, m1, ml, true_and]
    omega
  · obtain ⟨x, hx, rfl⟩ := hsur v ⟨h0, h1⟩
    rw [occ_perm hperm, ← h.three x hx.1 hx.2]
    have : ∀ l : List (List Int), (∀ r ∈ l, InR n (rd r 0) ∧ InR n (rd r 1)) → occ (rd p x) (l.map (pairN p)) = occ x l := fun l => by
      induction l with
      | nil => intro _; rfl
      | cons r l ih =>
        intro hl
        obtain ⟨e1, e2⟩ := hl r (by simp)
        rw [List.map_cons, occ, occ, ih fun r hr => hl r (by simp [hr])]
        have m0 : rd (pairN p r) 0 = min (rd p (rd r 0)) (rd p (rd r 1)) := rfl
        have m1 : rd (pairN p r) 1 = max (rd p (rd r 0)) (rd p (rd r 1)) := rfl
        have i0 : rd p x = rd p (rd r 0) ↔ x = rd r 0 := ⟨hinj _ _ hx e1, fun e => by rw [e]⟩
        have i1 : rd p x = rd p (rd r 1) ↔ x = rd r 1 := ⟨hinj _ _ hx e2, fun e => by rw [e]⟩
        rw [m0, m1]
        simp only [← i0, ← i1]
        by_cases c : rd p (rd r 0) ≤ rd p (rd r 1)
        · rw [Int.min_eq_left c, Int.max_eq_right c]
        · rw [Int.min_eq_right (by omega), Int.max_eq_left (by omega)]; omega
    exact this ll hends
  · obtain ⟨x', hx', rfl⟩ := hsur x hx
    obtain ⟨y', hy', rfl⟩ := hsur y hy
    refine h.conn (fun z => f (rd p z)) (fun r hr => ?_) x' y' hx' hy'
    have := hf _ (hperm.mem_iff.2 (List.mem_map.2 ⟨r, hr, rfl⟩))
    have m0 : rd (pairN p r) 0 = min (rd p (rd r 0)) (rd p (rd r 1)) := rfl
    have m1 : rd (pairN p r) 1 = max (rd p (rd r 0)) (rd p (rd r 1)) := rfl
    rw [m0, m1] at this
    by_cases c : rd p (rd r 0) ≤ rd p (rd r 1)
    · rw [Int.min_eq_left c, Int.max_eq_right c] at this; exact this
    · rw [Int.min_eq_right (by omega), Int.max_eq_left (by omega)] at this; exact this.symm
theorem leastF_mem (ll ps : List (List Int)) : ∀ i, 1 ≤ i → i ≤ ps.length → ∃ p ∈ ps, leastF ll ps i = renF ll p ll.length := fun i => by
  induction i with
  | zero => intro h; omega
  | succ i ih =>
    intro h1 h2
    by_cases hi : 1 ≤ i
    · rw [leastF_succ h2 hi]
      split
      · exact ⟨_, rdR_mem h2, rfl⟩
      · exact ih hi (by omega)
    · obtain rfl : i = 0 := by omega
      unfold leastF
      rw [show ((ps.take (0 + 1)).drop 1) = [] from List.drop_eq_nil_of_le (by simp; omega)]
      exact ⟨_, rdR_mem h2, rfl⟩
theorem least_pants {g : Int} {ll : List (List Int)} (h : isPants g ll = true) : isPants g (leastP g ll) = true := by
  obtain ⟨n, hn, _, hn6, _⟩ := pants_facts h
  have hp := (pants_iff hn).1 h
  obtain ⟨p, hm, e⟩ := leastF_mem ll (allP n) _ ((allP_facts n).2 hn6).2 (Nat.le_refl _)
  refine (pants_iff hn).2 ?_
  rw [leastP, show (2 * g - 2).toNat = n by omega, e]
  exact ren_pants hp (allP_perm n p hm)
end Go.Proofs.YtldjlonofclelaaTv
end
section
open Go Go.Proofs.YtldjlonofclelaaVe Go.Proofs.YtldjlonofclelaaTv Go.Proofs
namespace Go.Proofs.YtldjlonofclelaaTv
set_option maxRecDepth 8000
set_option maxHeartbeats 2000000
theorem endsF_at {v but : Int} : ∀ (e : Nat) (l : List (List Int)), ∀ p ∈ endsF v but e l, (p.1 : Int) ≠ but ∧ rd (l.getD (p.1 - e) []) p.2 = v
  | e, [], p, h => by simp [endsF] at h
  | e, r :: l, p, h => by
    have hin := endsF_in e (r :: l) p h
    simp only [endsF, List.mem_append] at h
    rcases h with h | h
    · unfold endE at h
      split at h
      · simp at h
      · rename_i hne
        rw [List.mem_append] at h
        rcases h with h | h
        · split at h
          · rename_i hv
            simp at h; subst h
            exact ⟨hne, by simpa using hv⟩
          · simp at h
        · split at h
          · rename_i hv
            simp at h; subst h
            exact ⟨hne, by simpa using hv⟩
          · simp at h
    · obtain ⟨h1, h2⟩ := endsF_at (e + 1) l p h
      have h3 := endsF_in (e + 1) l p h
      refine ⟨h1, ?_⟩
      rw [show p.1 - e = (p.1 - (e + 1)) + 1 by omega]
      simpa using h2
theorem pair_set {r : List Int} (h : r.length = 2) {i : Nat} (hi : i < 2) (x : Int) : (r.set i x).length = 2 ∧ rd (r.set i x) i = x ∧ rd (r.set i x) (1 - i : Nat) = rd r (1 - i : Nat) := by
  match r, h with
  | [a, b], _ =>
    match i, hi with
    | 0, _ => exact ⟨rfl, rfl, rfl⟩
    | 1, _ => exact ⟨rfl, rfl, rfl⟩
/-- What stands in the rows, when one number of a row is changed. -/
theorem occ_set {v x : Int} : ∀ {l : List (List Int)} {i : Nat} {r : List Int}, l[i]? = some r → ∀ r' : List Int, occ v (l.set i r') + ((if v = rd r 0 then 1 else 0) + (if v = rd r 1 then 1 else 0)) = occ v l + ((if v = rd r' 0 then 1 else 0) + (if v = rd r' 1 then 1 else 0))
  | [], i, r, h, _ => by simp at h
  | q :: l, 0, r, h, r' => by
    simp at h; subst h
    simp only [List.set_cons_zero, occ]; omega
  | q :: l, i + 1, r, h, r' => by
    have := occ_set (v := v) (x := x) (l := l) (i := i) (r := r) (by simpa using h) r'
    simp only [List.set_cons_succ, occ]; omega
theorem occ_setE {v x : Int} {l : List (List Int)} {p : Nat × Nat} (h1 : p.1 < l.length) (h2 : p.2 < 2) (hr : (l.getD p.1 []).length = 2) : occ v (setE l p x) + (if v = rd (l.getD p.1 []) p.2 then 1 else 0) = occ v l + (if v = x then 1 else 0) := by
  have hg : l[p.1]? = some (l.getD p.1 []) := by simp [h1]
  have := occ_set (v := v) (x := x) hg ((l.getD p.1 []).set p.2 x)
  unfold setE
  generalize l.getD p.1 [] = r at *
  obtain ⟨a1, a2, a3⟩ := pair_set hr h2 x
  obtain ⟨i, j⟩ := p
  simp only at *
  match j, h2 with
  | 0, _ =>
    have b2 : rd (r.set 0 x) 0 = x := a2
    have b3 : rd (r.set 0 x) 1 = rd r 1 := a3
    rw [b2, b3] at this
    have e : rd r ((0 : Nat) : Int) = rd r 0 := rfl
    rw [e]; omega
  | 1, _ =>
    have b2 : rd (r.set 1 x) 1 = x := a2
    have b3 : rd (r.set 1 x) 0 = rd r 0 := a3
    rw [b2, b3] at this
    have e : rd r ((1 : Nat) : Int) = rd r 1 := rfl
    rw [e]; omega
theorem occ_norm (v : Int) : ∀ l : List (List Int), occ v (l.map normE) = occ v l
  | [] => rfl
  | r :: l => by
    have m0 : rd (normE r) 0 = min (rd r 0) (rd r 1) := rfl
    have m1 : rd (normE r) 1 = max (rd r 0) (rd r 1) := rfl
    rw [List.map_cons, occ, occ, occ_norm v l, m0, m1]
    by_cases c : rd r 0 ≤ rd r 1
    · rw [Int.min_eq_left c, Int.max_eq_right c]
    · rw [Int.min_eq_right (by omega), Int.max_eq_left (by omega)]; omega
/-- The changed pants are pants. -/
theorem swap_pants {g : Int} {ll : List (List Int)} (h : isPants g ll = true) {e way : Nat} (he : e < ll.length) (hne : rd (rdR ll e) 0 ≠ rd (rdR ll e) 1) (hw : way < 2) : isPants g (swp ll e way) = true := by
  obtain ⟨n, hn, n2, n6, hg, hlen, hl9, hok⟩ := pants_facts h
  have hF := swp_facts h he hne hw
  have hP := (pants_iff hn).1 h
  obtain ⟨_, hrow, lu, lv, a1, a2, b1, b2⟩ := hF
  have hA := endsF_at (v := rd (rdR ll e) 0) (but := (e : Int)) 0 (ll.take ll.length) _ (getD_in (d := (0, 0)) (i := 1) (by unfold ends at lu; omega))
  have hB := endsF_at (v := rd (rdR ll e) 1) (but := (e : Int)) 0 (ll.take ll.length) _ (getD_in (d := (0, 0)) (i := way) (by unfold ends at lv; omega))
  rw [List.take_length] at hA hB
  replace hA : ((endA ll e).1 : Int) ≠ e ∧ rd (ll.getD (endA ll e).1 []) (endA ll e).2 = rd (rdR ll e) 0 := by simpa [endA, ends] using hA
  replace hB : ((endB ll e way).1 : Int) ≠ e ∧ rd (ll.getD (endB ll e way).1 []) (endB ll e way).2 = rd (rdR ll e) 1 := by simpa [endB, ends] using hB
  obtain ⟨ok1, ok2, ok3, ok4⟩ := rowOk_facts (hok e he)
  refine (pants_iff hn).2 ?_
  unfold swp swp0
  have hnu : 0 ≤ rd (rdR ll e) 0 ∧ rd (rdR ll e) 0 < n := ⟨ok2, by omega⟩
  have hnv : 0 ≤ rd (rdR ll e) 1 ∧ rd (rdR ll e) 1 < n := ⟨by omega, ok4⟩
  have hue : rdR ll e = ll.getD e [] := rfl
  generalize hA' : endA ll e = A at *
  generalize hB' : endB ll e way = B at *
  generalize hu : rd (rdR ll e) 0 = u at *
  generalize hv : rd (rdR ll e) 1 = v at *
  have r1 := rowLen_setE (x := v) hrow a1
  have l1 := setE_length ll A v
  have hgA : (ll.getD A.1 []).length = 2 := hrow _ (getD_in a1)
  have hgB : (ll.getD B.1 []).length = 2 := hrow _ (getD_in b1)
  have hgB1 : ((setE ll A v).getD B.1 []).length = 2 := r1 _ (getD_in (by omega))
  -- the second end is not the first one
  have hBv : rd ((setE ll A v).getD B.1 []) B.2 = v := by
    by_cases c : B.1 = A.1
    · have e1 : (setE ll A v).getD B.1 [] = (ll.getD A.1 []).set A.2 v := by
        rw [c]; simp [setE, a1]
      rw [e1]
      by_cases c2 : B.2 = A.2
      · rw [c2]; exact (pair_set hgA a2 v).2.1
      · have h3 := (pair_set hgA a2 v).2.2
        have e2 : B.2 = 1 - A.2 := by omega
        rw [e2, h3, ← e2, ← c]; exact hB.2
    · have e1 : (setE ll A v).getD B.1 [] = ll.getD B.1 [] := by
        simp [setE, List.getElem?_set_ne (fun d => c d.symm)]
      rw [e1]; exact hB.2
  have hocc : ∀ x, occ x ((setE (setE ll A v) B u).map normE) = occ x ll := fun x => by
    have h1 := occ_setE (v := x) (x := v) a1 a2 hgA
    have h2 := occ_setE (v := x) (x := u) (l := setE ll A v) (p := B) (by omega) b2 hgB1
    rw [hA.2] at h1
    rw [hBv] at h2
    rw [occ_norm]
    omega
  -- a row of the new list, and the old one
  have key : ∀ j, j < ll.length → ∃ r', (setE (setE ll A v) B u)[j]? = some r' ∧ r'.length = 2 ∧ (j = e → r' = rdR ll e) ∧ ∀ k, k < 2 → (rd r' (k : Nat) = rd (rdR ll j) (k : Nat)) ∨ (rd (rdR ll j) (k : Nat) = u ∧ rd r' (k : Nat) = v) ∨ (rd (rdR ll j) (k : Nat) = v ∧ rd r' (k : Nat) = u) := fun j hj => by
    have s1 : ∃ r1, (setE ll A v)[j]? = some r1 ∧ r1.length = 2 ∧ (j = e → r1 = rdR ll e) ∧ ∀ k, k < 2 → (rd r1 (k : Nat) = rd (rdR ll j) (k : Nat) ∨ ((j, k) = A ∧ rd r1 (k : Nat) = v)) := by
      by_cases c : j = A.1
      · refine ⟨(ll.getD A.1 []).set A.2 v, by rw [c]; simp [setE, a1], (pair_set hgA a2 v).1, fun c2 => absurd (by rw [← c, c2]) hA.1, fun k hk => ?_⟩
        by_cases c2 : k = A.2
        · exact .inr ⟨by rw [c, c2], by rw [c2]; exact (pair_set hgA a2 v).2.1⟩
        · have e2 : k = 1 - A.2 := by omega
          refine .inl ?_
          rw [e2, (pair_set hgA a2 v).2.2, c]; rfl
      · refine ⟨rdR ll j, ?_, hrow _ (rdR_mem hj), fun c2 => by rw [c2], fun k _ => .inl rfl⟩
        show (ll.set A.1 _)[j]? = _
        rw [List.getElem?_set_ne (fun d => c d.symm)]
        simp [rdR, hj]
    obtain ⟨q, q1, q2, q3, q4⟩ := s1
    by_cases c : j = B.1
    · have hq : (setE ll A v).getD B.1 [] = q := by rw [← c, List.getD_eq_getElem?_getD, q1]; rfl
      rw [hq] at hgB1 hBv
      refine ⟨q.set B.2 u, by
        have : setE (setE ll A v) B u = (setE ll A v).set B.1 (q.set B.2 u) := by rw [← hq]; rfl
        rw [this, c, List.getElem?_set_self (by omega)], (pair_set q2 b2 u).1, fun c2 => absurd (by rw [← c, c2]) hB.1, fun k hk => ?_⟩
      by_cases c2 : k = B.2
      · have h5 : rd (rdR ll j) (k : Nat) = v := by rw [c, c2]; exact hB.2
        exact .inr (.inr ⟨h5, by rw [c2]; exact (pair_set q2 b2 u).2.1⟩)
      · have e2 : k = 1 - B.2 := by omega
        have e3 : rd (q.set B.2 u) (k : Nat) = rd q (k : Nat) := by rw [e2]; exact (pair_set q2 b2 u).2.2
        rw [e3]
        rcases q4 k hk with h6 | ⟨h6, h7⟩
        · exact .inl h6
        · refine .inr (.inl ⟨?_, h7⟩)
          rw [← hA.2, ← h6]; rfl
    · refine ⟨q, by
        have : (setE (setE ll A v) B u)[j]? = (setE ll A v)[j]? := by
          show ((setE ll A v).set B.1 _)[j]? = _
          rw [List.getElem?_set_ne (fun d => c d.symm)]
        rw [this]; exact q1, q2, q3, fun k hk => ?_⟩
      rcases q4 k hk with h6 | ⟨h6, h7⟩
      · exact .inl h6
      · refine .inr (.inl ⟨?_, h7⟩)
        rw [← hA.2, ← h6]; rfl
  have hl2 : (setE (setE ll A v) B u).length = ll.length := by rw [setE_length, l1]
  have hends : ∀ j, j < ll.length → ∀ k, k < 2 → 0 ≤ rd (rdR ll j) (k : Nat) ∧ rd (rdR ll j) (k : Nat) < n := fun j hj k hk => by
    obtain ⟨_, p2, p3, p4⟩ := rowOk_facts (hok j hj)
    match k, hk with
    | 0, _ => exact ⟨p2, Int.lt_of_le_of_lt p3 p4⟩
    | 1, _ => exact ⟨Int.le_trans p2 p3, p4⟩
  refine ⟨hP.g2, hn, by rw [List.length_map, hl2]; exact hlen, fun r hr => ?_, fun x h0 h1 => by rw [hocc]; exact hP.three x h0 h1, fun f hf x y hx hy => ?_⟩
  · obtain ⟨q, hq, rfl⟩ := List.mem_map.1 hr
    obtain ⟨j, hj⟩ := List.mem_iff_getElem?.1 hq
    have hjl : j < ll.length := by rw [← hl2]; exact (List.getElem?_eq_some_iff.1 hj).1
    obtain ⟨r', k1, k2, _, k3⟩ := key j hjl
    obtain rfl : r' = q := by rw [k1] at hj; injection hj
    have hin : ∀ k, k < 2 → 0 ≤ rd r' (k : Nat) ∧ rd r' (k : Nat) < n := fun k hk => by
      have := hends j hjl k hk
      rcases k3 k hk with h6 | ⟨_, h6⟩ | ⟨_, h6⟩ <;> rw [h6] <;> first | exact this | exact hnu | exact hnv
    have i0 : 0 ≤ rd r' 0 ∧ rd r' 0 < n := hin 0 (by omega)
    have i1 : 0 ≤ rd r' 1 ∧ rd r' 1 < n := hin 1 (by omega)
    have m0 : rd (normE r') 0 = min (rd r' 0) (rd r' 1) := rfl
    have m1 : rd (normE r') 1 = max (rd r' 0) (rd r' 1) := rfl
    have ml : (normE r').length = 2 := rfl
    simp only [rowOk, Bool.and_eq_true, decide_eq_true_eq, m0, m1, ml, true_and]
    omega
  · have hedge : ∀ j r', (setE (setE ll A v) B u)[j]? = some r' → f (rd r' 0) = f (rd r' 1) := fun j r' hj => by
      have := hf (normE r') (List.mem_map.2 ⟨r', List.mem_of_getElem? hj, rfl⟩)
      have m0 : rd (normE r') 0 = min (rd r' 0) (rd r' 1) := rfl
      have m1 : rd (normE r') 1 = max (rd r' 0) (rd r' 1) := rfl
      rw [m0, m1] at this
      by_cases c : rd r' 0 ≤ rd r' 1
      · rw [Int.min_eq_left c, Int.max_eq_right c] at this; exact this
      · rw [Int.min_eq_right (by omega), Int.max_eq_left (by omega)] at this; exact this.symm
    have huv : f u = f v := by
      obtain ⟨r', k1, _, k3, _⟩ := key e he
      have := hedge e r' k1
      rw [k3 rfl, hu, hv] at this; exact this
    refine hP.conn f (fun r hr => ?_) x y hx hy
    obtain ⟨j, hj, rfl⟩ := mem_rdR hr
    obtain ⟨r', k1, k2, _, k3⟩ := key j hj
    have h7 := hedge j r' k1
    have e0 : f (rd r' 0) = f (rd (rdR ll j) 0) := by
      rcases k3 0 (by omega) with h6 | ⟨h5, h6⟩ | ⟨h5, h6⟩
      · exact congrArg f h6
      · exact (congrArg f h6).trans (huv.symm.trans (congrArg f h5).symm)
      · exact (congrArg f h6).trans (huv.trans (congrArg f h5).symm)
    have e1 : f (rd r' 1) = f (rd (rdR ll j) 1) := by
      rcases k3 1 (by omega) with h6 | ⟨h5, h6⟩ | ⟨h5, h6⟩
      · exact congrArg f h6
      · exact (congrArg f h6).trans (huv.symm.trans (congrArg f h5).symm)
      · exact (congrArg f h6).trans (huv.trans (congrArg f h5).symm)
    rw [← e0, ← e1]; exact h7
end Go.Proofs.YtldjlonofclelaaTv
end
section
open Go Go.Proofs.YtldjlonofclelaaVe Go.Proofs.YtldjlonofclelaaTv Go.Proofs
namespace Go.Proofs.YtldjlonofclelaaTv
set_option maxRecDepth 8000
set_option maxHeartbeats 2000000
abbrev Tbl := List (List Int)
def rdS (S : List Tbl) (i : Int) : Tbl := S.getD i.toNat []
structure Tb (L : Nat) (s : Tbl) : Prop where
  len : s.length = L
  prs : Prs s
  small : Small s
theorem Tb.eq_iff {L : Nat} {a b : Tbl} (ha : Tb L a) (hb : Tb L b) : cmpF a b = 0 ↔ a = b := ⟨cmpF_eq (by rw [ha.len, hb.len]) ha.prs hb.prs, fun e => by rw [e, cmpF_self]⟩
def posT : List Tbl → Tbl → Nat
  | [], _ => 0
  | s :: S, x => if cmpF s x < 0 then posT S x + 1 else 0
theorem posT_le : ∀ (S : List Tbl) (x : Tbl), posT S x ≤ S.length
  | [], _ => Nat.le_refl _
  | s :: S, x => by
    unfold posT
    have := posT_le S x
    split
    · simp only [List.length_cons]; omega
    · exact Nat.zero_le _
/-- Is it there already? -/
def hasT (S : List Tbl) (x : Tbl) : Bool := decide (posT S x < S.length) && decide (cmpF (rdS S (posT S x)) x = 0)
def addT (S : List Tbl) (x : Tbl) : List Tbl := if hasT S x = true then S else S.take (posT S x) ++ x :: S.drop (posT S x)
theorem drop_consS {S : List Tbl} {i : Nat} (h : i < S.length) : S.drop i = rdS S i :: S.drop (i + 1) := by
  rw [List.drop_eq_getElem_cons h]
  simp [rdS, h]
theorem rdS_mem {S : List Tbl} {i : Nat} (h : i < S.length) : rdS S i ∈ S := by simp [rdS, h]
theorem addT_len (S : List Tbl) (x : Tbl) : (addT S x).length = if hasT S x = true then S.length else S.length + 1 := by
  have := posT_le S x
  unfold addT
  split
  · rfl
  · simp; omega
theorem addT_mem {S : List Tbl} {x y : Tbl} (h : y ∈ addT S x) : y ∈ S ∨ y = x := by
  unfold addT at h
  split at h
  · exact .inl h
  · rcases List.mem_append.1 h with h | h
    · exact .inl (List.mem_of_mem_take h)
    · rcases List.mem_cons.1 h with h | h
      · exact .inr h
      · exact .inl (List.mem_of_mem_drop h)
theorem l2Same (l m : List Int) (hl : (l.length : Int) ≤ 274877906944) : ConS Try.prog 90 [.il l, .il m] (.b (decide (l = m))) := by
  refine conS_of hmix hTab Try.func90 rfl rfl (by kernel_rfl) (by show 2 ≤ Try.f90.ntmps; decide) rfl ?_
  refine stp ?_; try with_reducible exact True.intro
  refine Br.mk (fun h => ?_) (fun h => ?_) <;> simp [-Int.ofNat_toNat] at h
  · refine stp ?_; try with_reducible exact True.intro
    have : l ≠ m := fun e => h (by rw [e])
    simp [this]
  · refine stp ?_; try with_reducible exact True.intro
    refine ⟨Nat, fun i => i ≤ l.length ∧ ∀ k, k < i → rd l k = rd m k, fun i => l.length - i, fun i => [(0, .il l), (1, .il m), (5, .i i)], fun i => [], ⟨0, (fitK [] []), by simp⟩, fun i ⟨hi, hk⟩ => ?_⟩
    dsimp only at hi hk ⊢
    refine stp ?_; try with_reducible exact True.intro
    refine Br.mk (fun h1 => ?_) (fun h1 => ?_) <;> simp [-Int.ofNat_toNat] at h1
    · refine stp ?_; try with_reducible exact True.intro
      refine Br.mk (fun h2 => ?_) (fun h2 => ?_) <;> simp [-Int.ofNat_toNat] at h2
      · refine stp ?_; try with_reducible exact True.intro
        have : l ≠ m := fun e => h2 (by rw [e])
        simp [this]
      · refine stp ?_; try with_reducible exact True.intro
        refine ⟨i + 1, (fitK [] []), ⟨h1, fun k hk1 => ?_⟩, by first | ((try dsimp only); omega) | (simp; omega)⟩
        by_cases e : k = i
        · rw [e]; exact h2
        · exact hk k (by omega)
    · refine stp ?_; try with_reducible exact True.intro
      have : l = m := by
        refine List.ext_getElem (by omega) fun k h2 h3 => ?_
        have := hk k (by omega)
        simpa [rd, h2, h3] using this
      simp [this]
theorem l11Same (l m : Tbl) (hl : (l.length : Int) ≤ 274877906944) (hr : ∀ r ∈ l, (r.length : Int) ≤ 274877906944) : ConS Try.prog 140 [.ill l, .ill m] (.b (decide (l = m))) := by
  refine conS_of hmix hTab Try.func140 rfl rfl (by kernel_rfl) (by show 2 ≤ Try.f140.ntmps; decide) rfl ?_
  refine stp ?_; try with_reducible exact True.intro
  refine Br.mk (fun h => ?_) (fun h => ?_) <;> simp [-Int.ofNat_toNat] at h
  · refine stp ?_; try with_reducible exact True.intro
    have : l ≠ m := fun e => h (by rw [e])
    simp [this]
  · refine stp ?_; try with_reducible exact True.intro
    refine ⟨Nat, fun i => i ≤ l.length ∧ ∀ k, k < i → rdR l k = rdR m k, fun i => l.length - i, fun i => [(0, .ill l), (1, .ill m), (5, .i i)], fun i => [], ⟨0, (fitK [] []), by simp⟩, fun i ⟨hi, hk⟩ => ?_⟩
    dsimp only at hi hk ⊢
    refine stp ?_; try with_reducible exact True.intro
    refine Br.mk (fun h1 => ?_) (fun h1 => ?_) <;> simp [-Int.ofNat_toNat] at h1
    · have hmem : rdR l i ∈ l := by simp [rdR, h1]
      refine stp ?_; try with_reducible exact True.intro
      refine useT ((l2Same (rdR l i) (rdR m i) (hr _ hmem)).toT) ?_; try with_reducible exact True.intro
      refine Br.mk (fun h2 => ?_) (fun h2 => ?_) <;> simp [-Int.ofNat_toNat] at h2
      · refine stp ?_; try with_reducible exact True.intro
        have : l ≠ m := fun e => h2 (by rw [e])
        simp [this]
      · refine stp ?_; try with_reducible exact True.intro
        refine ⟨i + 1, (fitK [] []), ⟨h1, fun k hk1 => ?_⟩, by first | ((try dsimp only); omega) | (simp; omega)⟩
        by_cases e : k = i
        · rw [e]; exact h2
        · exact hk k (by omega)
    · refine stp ?_; try with_reducible exact True.intro
      have : l = m := by
        refine List.ext_getElem (by omega) fun k h2 h3 => ?_
        have := hk k (by omega)
        simpa [rdR, h2, h3] using this
      simp [this]
theorem l19Add (L : Nat) (hL : L ≤ 9) (S : List Tbl) (x : Tbl) (hS : ∀ s ∈ S, Tb L s) (hx : Tb L x) (hn : (S.length : Int) < 274877906944) : ConI Try.prog 113 [.own 0 0 S.length, .own 1 0 L] [.arr (.list (.list (.int .i64))) S false, .frz (.list (.int .i64)) x]
    (if hasT S x = true then .own 0 0 S.length else .own 2 0 (S.length + 1)) (if hasT S x = true then [.arr (.list (.list (.int .i64))) S false, .frz (.list (.int .i64)) x] else [.gone, .frz (.list (.int .i64)) x, .arr (.list (.list (.int .i64))) (addT S x) false]) := by
  have hxl := hx.len
  subst hxl
  refine conI_of hmix hTab Try.func113 rfl rfl (by kernel_rfl) (by show 2 ≤ Try.f113.ntmps; decide) ?_
  refine stp ?_; try with_reducible exact True.intro
  refine ⟨Nat, fun i => i ≤ S.length ∧ posT S x = i + posT (S.drop i) x, fun i => S.length - i, fun i => [(0, .own 0 0 S.length), (1, .own 1 0 (List.length x)), (5, .i i)], fun i => [.arr (.list (.list (.int .i64))) S false, .frz (.list (.int .i64)) x], ⟨0, (fitK [] [0, 1]), by simp⟩, fun i ⟨hi, hp⟩ => ?_⟩
  dsimp only at hi hp ⊢
  refine stp ?_; try with_reducible exact True.intro
  refine Br.mk (fun h1 => ?_) (fun h1 => ?_) <;> simp [-Int.ofNat_toNat] at h1
  · have hm := hS _ (rdS_mem h1)
    have hl := l19Less (rdS S i) x (by rw [hm.len]; exact hL) (by rw [hm.len, hx.len]) hm.small hx.small
    rw [drop_consS h1, posT] at hp
    have hsm := l11Same (rdS S i) x (by rw [hm.len]; omega) fun r hr => by rw [hm.prs r hr]; omega
    have heq := hm.eq_iff hx
    refine stp ?_; try with_reducible exact True.intro
    refine useT (hl.toT) ?_; try with_reducible exact True.intro
    refine Br.mk (fun c1 => ?_) (fun c1 => ?_) <;> simp [-Int.ofNat_toNat] at c1
    · rw [if_pos c1] at hp
      refine stp ?_; try with_reducible exact True.intro
      exact ⟨i + 1, (fitK [] [0, 1]), ⟨h1, by omega⟩, by first | ((try dsimp only); omega) | (simp; omega)⟩
    · rw [if_neg (by omega)] at hp
      refine stp ?_; try with_reducible exact True.intro
      refine brT (decide_eq_true (by omega)) ?_
      refine stp ?_; try with_reducible exact True.intro
      refine useT (hsm.toT) ?_; try with_reducible exact True.intro
      refine Br.mk (fun c2 => ?_) (fun c2 => ?_) <;> simp [-Int.ofNat_toNat] at c2
      · have hh : hasT S x = true := by
          simp only [hasT, Bool.and_eq_true, decide_eq_true_eq]
          rw [hp, Nat.add_zero]
          exact ⟨h1, heq.2 c2⟩
        simp only [hh, if_true]
        refine stp ?_; try with_reducible exact True.intro
        exact (fitK [] [0, 1])
      · have hh : hasT S x = false := by
          simp only [hasT, Bool.and_eq_false_iff, decide_eq_false_iff_not]
          rw [hp, Nat.add_zero]
          exact .inr fun c => c2 (heq.1 c)
        simp only [hh, Bool.false_eq_true, if_false]
        have had : addT S x = S.take i ++ x :: S.drop i := by
          rw [addT, hh, if_neg (by simp), hp, Nat.add_zero]
        rw [had]
        refine stp ?_; try with_reducible exact True.intro
        refine Or.inr ?_; refine stp ?_; try with_reducible exact True.intro
        refine Or.inr ?_; refine stp ?_; try with_reducible exact True.intro
        refine Or.inr ?_; refine stp ?_; try with_reducible exact True.intro
        refine Or.inr ?_; refine stp ?_; try with_reducible exact True.intro
        refine Or.inr ?_; refine stp ?_; try with_reducible exact True.intro
        refine ⟨.frz [], [0, 1, 6], ⟨?_, trivial⟩, ⟨rfl, rfl, ?_, trivial⟩, by decide, rfl, rfl, rfl⟩
        · show V.own 6 0 _ = V.own 6 0 _
          congr 1
          simp
          omega
        · refine congrArg (fun x => some (Obj.arr (.list (.list (.int .i64))) x false)) ?_
          simp
          rw [List.take_of_length_le (l := List.take i S ++ [x]) (by simp; omega), List.take_take, Nat.min_self, List.take_of_length_le (l := List.drop i S) (by simp)]
          simp
  · obtain rfl : i = S.length := by omega
    rw [List.drop_of_length_le (Nat.le_refl _), posT, Nat.add_zero] at hp
    have hh : hasT S x = false := by
      simp only [hasT, hp, Nat.lt_irrefl, decide_false, Bool.false_and]
    have had : addT S x = S.take S.length ++ x :: S.drop S.length := by
      rw [addT, hh, if_neg (by simp), hp]
    rw [had]
    simp only [hh, Bool.false_eq_true, if_false]
    refine stp ?_; try with_reducible exact True.intro
    refine brF (decide_eq_false (by omega)) ?_
    refine stp ?_; try with_reducible exact True.intro
    refine Or.inr ?_; refine stp ?_; try with_reducible exact True.intro
    refine Or.inr ?_; refine stp ?_; try with_reducible exact True.intro
    refine Or.inr ?_; refine stp ?_; try with_reducible exact True.intro
    refine Or.inr ?_; refine stp ?_; try with_reducible exact True.intro
    refine Or.inr ?_; refine stp ?_; try with_reducible exact True.intro
    refine ⟨.frz [], [0, 1, 6], ⟨?_, trivial⟩, ⟨rfl, rfl, ?_, trivial⟩, by decide, rfl, rfl, rfl⟩
    · show V.own 6 0 _ = V.own 6 0 _
      congr 1
      simp
    · refine congrArg (fun x => some (Obj.arr (.list (.list (.int .i64))) x false)) ?_
      simp
      rw [List.take_of_length_le (by simp)]
/-- What comes of changes at an edge. -/
def nbr (g : Int) (ll : Tbl) (e way : Nat) : Tbl := leastP g (swp ll e way)
def fromW (g : Int) (ll : Tbl) (S : List Tbl) (e : Nat) : Nat → List Tbl
  | 0 => S
  | w + 1 => if rd (rdR ll e) 0 = rd (rdR ll e) 1 then S else addT (fromW g ll S e w) (nbr g ll e w)
def fromE (g : Int) (ll : Tbl) : Nat → List Tbl
  | 0 => []
  | e + 1 => fromW g ll (fromE g ll e) e 2
def fromP (g : Int) (ll : Tbl) : List Tbl := fromE g ll ll.length
theorem nbr_facts {g : Int} {ll : Tbl} (h : isPants g ll = true) {e way : Nat} (he : e < ll.length) (hne : rd (rdR ll e) 0 ≠ rd (rdR ll e) 1) (hw : way < 2) : isPants g (nbr g ll e way) = true ∧ Tb ll.length (nbr g ll e way) := by
  unfold nbr
  have hs := swap_pants h he hne hw
  obtain ⟨f1, f2⟩ := leastP_facts hs
  have hp := least_pants hs
  obtain ⟨n, hn, n2, n6, hg, hlen, hl9, hok⟩ := pants_facts hp
  refine ⟨hp, ⟨f1.trans (swp_length _ _ _), f2, fun j hj => ?_⟩⟩
  obtain ⟨r1, r2, r3, r4⟩ := rowOk_facts (hok j hj)
  exact ⟨r1, ⟨r2, by omega⟩, ⟨by omega, by omega⟩⟩
theorem fromW_facts {g : Int} {ll : Tbl} (h : isPants g ll = true) {S : List Tbl} {e : Nat} (he : e < ll.length) {P : Tbl → Prop} (hP : ∀ w, w < 2 → rd (rdR ll e) 0 ≠ rd (rdR ll e) 1 → P (nbr g ll e w)) (hS : ∀ s ∈ S, P s) : ∀ w, w ≤ 2 → (∀ s ∈ fromW g ll S e w, P s) ∧ (fromW g ll S e w).length ≤ S.length + w
  | 0, _ => ⟨hS, Nat.le_refl _⟩
  | w + 1, hw => by
    obtain ⟨h1, h2⟩ := fromW_facts h he hP hS w (by omega)
    unfold fromW
    split
    · exact ⟨hS, by omega⟩
    · rename_i hne
      refine ⟨fun s hs => ?_, ?_⟩
      · rcases addT_mem hs with hs | rfl
        · exact h1 s hs
        · exact hP w (by omega) hne
      · rw [addT_len]
        split <;> omega
theorem fromE_facts {g : Int} {ll : Tbl} (h : isPants g ll = true) {P : Tbl → Prop} (hP : ∀ e w, e < ll.length → w < 2 → rd (rdR ll e) 0 ≠ rd (rdR ll e) 1 → P (nbr g ll e w)) : ∀ e, e ≤ ll.length → (∀ s ∈ fromE g ll e, P s) ∧ (fromE g ll e).length ≤ 2 * e
  | 0, _ => ⟨by simp [fromE], by simp [fromE]⟩
  | e + 1, he => by
    obtain ⟨h1, h2⟩ := fromE_facts h hP e (by omega)
    obtain ⟨h3, h4⟩ := fromW_facts h (show e < ll.length by omega) (fun w hw hne => hP e w (by omega) hw hne) h1 2 (Nat.le_refl _)
    exact ⟨h3, by unfold fromE; omega⟩
end Go.Proofs.YtldjlonofclelaaTv
end
section
open Go Go.Proofs.YtldjlonofclelaaVe Go.Proofs.YtldjlonofclelaaTv Go.Proofs
namespace Go.Proofs.YtldjlonofclelaaTv
set_option maxRecDepth 8000
set_option maxHeartbeats 2000000
theorem l19From (g : Int) (ll : Tbl) (h : isPants g ll = true) : ConT Try.prog 139 [.i g, .ill ll] (.own 0 0 (fromP g ll).length) [.arr (.list (.list (.int .i64))) (fromP g ll) false] := by
  refine conT_of hmix hTab Try.func139 rfl rfl (by kernel_rfl) (by show 2 ≤ Try.f139.ntmps; decide) ?_
  obtain ⟨n, hn, n2, n6, hg, hlen, hl9, hok⟩ := pants_facts h
  have hr2 : ∀ j : Nat, j < ll.length → (rdR ll j).length = 2 := fun j hj => (rowOk_facts (hok j hj)).1
  have hfp : fromP g ll = fromE g ll ll.length := rfl
  refine stp ?_; try with_reducible exact True.intro
  refine Or.inr ?_; refine stp ?_; try with_reducible exact True.intro
  refine ⟨Nat, fun e => e ≤ ll.length, fun e => ll.length - e, fun e => [(0, .i g), (1, .ill ll), (5, .own 0 0 (fromE g ll e).length), (6, .i e)], fun e => [.arr (.list (.list (.int .i64))) (fromE g ll e) false], ⟨0, (fitK [] [0]), Nat.zero_le _⟩, fun e he => ?_⟩
  dsimp only at he ⊢
  have hf := fromE_facts h (P := Tb ll.length) (fun e w h1 h2 h3 => (nbr_facts h h1 h3 h2).2) e he
  refine stp ?_; try with_reducible exact True.intro
  refine Br.mk (fun c1 => ?_) (fun c1 => ?_) <;> simp [-Int.ofNat_toNat] at c1
  · have hw := fun w => fromW_facts h c1 (P := Tb ll.length) (fun w h2 h3 => (nbr_facts h c1 h3 h2).2) hf.1 w
    have hnext : fromE g ll (e + 1) = fromW g ll (fromE g ll e) e 2 := rfl
    have ql : List.length (rdT (.list (.int .i64)) ll (e : Int)) = (rdR ll e).length := rfl; have q0 : @Eq Int (rdT (.int .i64) (rdT (.list (.int .i64)) ll (e : Int)) 0) (rd (rdR ll e) 0) := rfl; have q1 : @Eq Int (rdT (.int .i64) (rdT (.list (.int .i64)) ll (e : Int)) 1) (rd (rdR ll e) 1) := rfl; have qlo : List.length (rdT (.list (.int .i64)) ll (((e : Int).toNat : Nat) : Int)) = (rdR ll e).length := rfl; have q0o : @Eq Int (rdT (.int .i64) (rdT (.list (.int .i64)) ll (((e : Int).toNat : Nat) : Int)) 0) (rd (rdR ll e) 0) := rfl; have q1o : @Eq Int (rdT (.int .i64) (rdT (.list (.int .i64)) ll (((e : Int).toNat : Nat) : Int)) 1) (rd (rdR ll e) 1) := rfl
    have hre := hr2 e c1
    refine stp ?_; try with_reducible exact True.intro
    refine ⟨Nat, fun w => w ≤ 2 ∧ (w = 0 ∨ rd (rdR ll e) 0 ≠ rd (rdR ll e) 1), fun w => 2 - w, fun w => [(0, .i g), (1, .ill ll), (5, .own 0 0 (fromW g ll (fromE g ll e) e w).length), (6, .i e), (7, .i w)], fun w => [.arr (.list (.list (.int .i64))) (fromW g ll (fromE g ll e) e w) false], ⟨0, (fitK [] [0]), by omega, .inl rfl⟩, fun w ⟨hw2, hwr⟩ => ?_⟩
    dsimp only at hw2 hwr ⊢
    have hS := hw w hw2
    have hst : fromW g ll (fromE g ll e) e (w + 1) = if rd (rdR ll e) 0 = rd (rdR ll e) 1 then fromE g ll e else addT (fromW g ll (fromE g ll e) e w) (nbr g ll e w) := rfl
    generalize hSg : fromW g ll (fromE g ll e) e w = S at *
    refine stp ?_; try with_reducible exact True.intro
    refine Br.mk (fun c2 => ?_) (fun c2 => ?_) <;> simp [-Int.ofNat_toNat] at c2
    · replace c2 : w < 2 := by omega
      refine stp ?_; try with_reducible exact True.intro
      refine Br.mk (fun c3 => ?_) (fun c3 => ?_) <;> simp only [decide_eq_true_eq, decide_eq_false_iff_not, ne_eq, Decidable.not_not, Bool.not_eq_eq_eq_not, Bool.not_true, Bool.not_false] at c3
      · replace c3 : rd (rdR ll e) 0 ≠ rd (rdR ll e) 1 := c3
        rw [if_neg c3] at hst
        have hswp := swap_pants h c1 c3 c2
        obtain ⟨n', hn', _, n6', _, _, sl9, sok⟩ := pants_facts hswp
        have hle := l19Least g n' hn' n6' (swp ll e w) sl9 (fun j hj => ends_of sok j hj)
        have hnb : leastF (swp ll e w) (allP n') (allP n').length = nbr g ll e w := by rw [nbr, leastP, show (2 * g - 2).toNat = n' by omega]
        have hnf := nbr_facts h c1 c3 c2
        rw [hnb] at hle
        have hsl := swp_length ll e w
        rw [hsl] at hle
        have had := l19Add ll.length hl9 S (nbr g ll e w) hS.1 hnf.2 (by omega)
        have hal := addT_len S (nbr g ll e w)
        refine stp ?_; try with_reducible exact True.intro
        refine useT (l19Swap ll e w (swp_facts h c1 c3 c2) c1 c2) ?_; try with_reducible exact True.intro
        refine useT (hle) ?_; try with_reducible exact True.intro
        cases hh : hasT S (nbr g ll e w) with
        | true =>
          simp only [hh, if_true] at had hal
          have hsame : addT S (nbr g ll e w) = S := by rw [addT, hh, if_pos rfl]
          refine useI [0, 2] (had) ?_; try with_reducible exact True.intro
          refine ⟨w + 1, ⟨.frz [], [0], ⟨rfl, rfl, ?_, rfl, rfl, trivial⟩, ⟨?_, trivial⟩, by decide, rfl, rfl, rfl⟩, ⟨by omega, .inr c3⟩, by first | ((try dsimp only); omega) | (simp; omega)⟩
          · rw [hst, hsame]; rfl
          · rw [hst, hsame]; rfl
        | false =>
          simp only [hh, Bool.false_eq_true, if_false] at had hal
          refine useI [0, 2] (had) ?_; try with_reducible exact True.intro
          refine ⟨w + 1, ⟨.frz [], [3], ⟨rfl, rfl, ?_, rfl, rfl, trivial⟩, ⟨?_, trivial⟩, by decide, rfl, rfl, rfl⟩, ⟨by omega, .inr c3⟩, by first | ((try dsimp only); omega) | (simp; omega)⟩
          · rw [hst, hal]; rfl
          · rw [hst]; rfl
      · replace c3 : rd (rdR ll e) 0 = rd (rdR ll e) 1 := c3
        obtain rfl : w = 0 := by omega
        have hlast : fromE g ll (e + 1) = S := by
          rw [hnext, ← hSg]
          simp [fromW, c3]
        refine stp ?_; try with_reducible exact True.intro
        refine ⟨e + 1, ⟨.frz [], [0], ⟨rfl, rfl, ?_, rfl, trivial⟩, ⟨?_, trivial⟩, by decide, rfl, rfl, rfl⟩, c1, by first | ((try dsimp only); omega) | (simp; omega)⟩
        · rw [hlast]; rfl
        · rw [hlast]; rfl
    · obtain rfl : w = 2 := by omega
      have hlast : fromE g ll (e + 1) = S := by rw [hnext, hSg]
      refine stp ?_; try with_reducible exact True.intro
      refine ⟨e + 1, ⟨.frz [], [0], ⟨rfl, rfl, ?_, rfl, trivial⟩, ⟨?_, trivial⟩, by decide, rfl, rfl, rfl⟩, c1, by first | ((try dsimp only); omega) | (simp; omega)⟩
      · rw [hlast]; rfl
      · rw [hlast]; rfl
  · obtain rfl : e = ll.length := by omega
    rw [hfp]
    refine stp ?_; try with_reducible exact True.intro
    exact (fitK [] [0])
end Go.Proofs.YtldjlonofclelaaTv
end
