/- What functions of the program give: each contract holds for all arguments that its own sentence names. -/
import Derived.Test.YtaoepnmhflmhhaaFnFnExactNewSession1
set_option linter.unusedVariables false
set_option linter.unusedSimpArgs false
section
open Go Go.Proofs.YtaoepnmhflmhhaaVe Go.Proofs.YtaoepnmhflmhhaaTv Go.Proofs
namespace Go.Proofs.YtaoepnmhflmhhaaTv
set_option maxRecDepth 8000
set_option maxHeartbeats 2000000
def letT (c : Int) : Option Int := if 97 ≤ c ∧ c ≤ 105 then some (c - 96) else if 65 ≤ c ∧ c ≤ 73 then some (64 - c) else none
def letsT (s : ByteArray) : Nat → Option (List Int)
  | 0 => some []
  | i + 1 => match letsT s i, letT (byteAt s i) with
    | some l, some x => some (l ++ [x])
    | _, _ => none
theorem letsT_len (s : ByteArray) : ∀ (i : Nat) (l : List Int), letsT s i = some l → l.length = i
  | 0, l, h => by
    injection h with h
    rw [← h]; rfl
  | i + 1, l, h => by
    unfold letsT at h
    split at h
    · rename_i l0 x h1 h2
      injection h with h
      have := letsT_len s i l0 h1
      rw [← h]; simp [this]
    · cases h
theorem letsT_none (s : ByteArray) {i : Nat} (h : letsT s i = none) : ∀ j, i ≤ j → letsT s j = none
  | 0, hj => by
    obtain rfl : i = 0 := by omega
    exact h
  | j + 1, hj => by
    by_cases e : i = j + 1
    · rw [← e]; exact h
    · rw [letsT, letsT_none s h j (by omega)]
def wordsT (ps : List ByteArray) : Nat → Option (List (List Int))
  | 0 => some []
  | k + 1 => match wordsT ps k, letsT (rdT .str ps k) (rdT .str ps k).size with
    | some l, some w => some (l ++ [w])
    | _, _ => none
theorem wordsT_none {ps : List ByteArray} {i : Nat} (h : wordsT ps i = none) : ∀ j, i ≤ j → wordsT ps j = none
  | 0, hj => by
    obtain rfl : i = 0 := by omega
    exact h
  | j + 1, hj => by
    by_cases e : i = j + 1
    · rw [← e]; exact h
    · rw [wordsT, wordsT_none h j (by omega)]
theorem wordsT_len {ps : List ByteArray} (hp : ∀ q ∈ ps, q.size ≤ 36) : ∀ (k : Nat) (l : List (List Int)), k ≤ ps.length → wordsT ps k = some l → l.length = k ∧ ∀ w ∈ l, w.length ≤ 36
  | 0, l, _, h => by
    injection h with h
    rw [← h]; simp
  | k + 1, l, hk, h => by
    unfold wordsT at h
    split at h
    · rename_i l0 w h1 h2
      injection h with h
      obtain ⟨h3, h4⟩ := wordsT_len hp k l0 (by omega) h1
      have h5 := letsT_len _ _ _ h2
      have h6 := hp (rdT .str ps k) (List.mem_of_getElem? (rdT_get .str ps (k : Int) (by simp; omega)))
      rw [← h]
      refine ⟨by simp [h3], fun w' hw => ?_⟩
      rcases List.mem_append.1 hw with hw | hw
      · exact h4 w' hw
      · rw [List.mem_singleton] at hw; rw [hw]; omega
    · cases h
def parseT (s : ByteArray) : Option (List (List Int)) := match wordsT (split s 32) (split s 32).length with
  | some g => if isTri g = true then some g else none
  | none => none
theorem ParseTriI (s : ByteArray) (hs : s.size ≤ 36) : ConT Try.prog 52 [.s s] (resG (parseT s)) (obG (parseT s)) := by
  refine conT_of hmix hTab Try.func52 rfl rfl (by kernel_rfl) (by show 1 ≤ Try.f52.ntmps; decide) ?_
  have hsp := SplitByteI s 32 (by omega)
  have hlen := split_len s 32
  have hsz : ∀ q ∈ split s 32, q.size ≤ 36 := fun q hq => Nat.le_trans (split_size (s := s) (b := 32) q hq) hs
  have hp : parseT s = match wordsT (split s 32) (split s 32).length with
    | some g => if isTri g = true then some g else none
    | none => none := rfl
  generalize split s 32 = ps at *
  refine stp ?_; try with_reducible exact True.intro
  refine brF (decide_eq_false (by omega)) ?_
  refine stp ?_; try with_reducible exact True.intro
  refine Or.inl ?_; refine stp ?_; try with_reducible exact True.intro
  refine useT (hsp) ?_; try with_reducible exact True.intro
  refine ⟨Nat × List (List Int), fun a => a.1 ≤ ps.length ∧ wordsT ps a.1 = some a.2, fun a => ps.length - a.1, fun a => [(4, .own 0 0 a.2.length), (15, .own 1 0 ps.length), (16, .i ps.length), (17, .i a.1)], fun a => [.arr (.list (.int .i64)) a.2 true, .arr .str ps true], ⟨(0, []), (fitK [] [0, 1]), Nat.zero_le _, rfl⟩, fun ⟨k, l⟩ ⟨hk, hl⟩ => ?_⟩
  dsimp only at hk hl ⊢
  obtain ⟨hll, hlr⟩ := wordsT_len hsz k l hk hl
  refine stp ?_; try with_reducible exact True.intro
  refine Br.mk (fun h1 => ?_) (fun h1 => ?_) <;> simp [-Int.ofNat_toNat] at h1
  · have hq := hsz (rdT .str ps k) (List.mem_of_getElem? (rdT_get .str ps (k : Int) (by simpa using h1)))
    have hsu : wordsT ps (k + 1) = match letsT (rdT .str ps k) (rdT .str ps k).size with
      | some w => some (l ++ [w])
      | none => none := by
      rw [wordsT, hl]
      cases letsT (rdT .str ps k) (rdT .str ps k).size <;> rfl
    refine stp ?_; try with_reducible exact True.intro
    refine ⟨Nat × List Int, fun a => a.1 ≤ (rdT .str ps k).size ∧ letsT (rdT .str ps k) a.1 = some a.2, fun a => (rdT .str ps k).size - a.1, fun a => [(4, .own 0 0 l.length), (6, .s (rdT .str ps k)), (7, .own 2 0 a.2.length), (15, .own 1 0 ps.length), (16, .i ps.length), (17, .i k), (23, .i (rdT .str ps k).size), (24, .i a.1)], fun a => [.arr (.list (.int .i64)) l true, .arr .str ps true, .arr (.int .i64) a.2 true], ⟨(0, []), (fitK [] [0, 1, 2]), Nat.zero_le _, rfl⟩, fun ⟨i, w⟩ ⟨hi, hw⟩ => ?_⟩
    dsimp only at hi hw ⊢
    generalize rdT .str ps (k : Int) = q at *
    have hll2 := letsT_len q i w hw
    refine stp ?_; try with_reducible exact True.intro
    refine Br.mk (fun h2 => ?_) (fun h2 => ?_) <;> simp [-Int.ofNat_toNat] at h2
    · have hb := byteAt_rng q i
      have hsu2 : letsT q (i + 1) = match letT (byteAt q i) with
        | some x => some (w ++ [x])
        | none => none := by
        rw [letsT, hw]
        cases letT (byteAt q i) <;> rfl
      have hbad : letT (byteAt q i) = none → parseT s = none := fun e => by
        have e1 : letsT q q.size = none := letsT_none q (by rw [hsu2, e]) q.size h2
        rw [e1] at hsu
        rw [hp, wordsT_none hsu ps.length h1]
      have hgood : ∀ x, letT (byteAt q i) = some x → letsT q (i + 1) = some (w ++ [x]) := fun x e => by rw [hsu2, e]
      unfold letT at hbad hgood
      by_cases hA : 97 ≤ byteAt q i ∧ byteAt q i ≤ 105
      · replace hgood := hgood _ (by rw [if_pos hA])
        have w2 : IntKind.wrap .i64 (IntKind.wrap .u8 (byteAt q i - 97)) = byteAt q i - 97 := by
          rw [IntWalk.u8_in _ (by omega), IntWalk.i64_in _ (by omega)]
        refine stp ?_; try with_reducible exact True.intro
        refine brT (decide_eq_true (by omega)) ?_
        refine stp ?_; try with_reducible exact True.intro
        refine brT (decide_eq_true (by omega)) ?_
        refine stp ?_; try with_reducible exact True.intro
        refine ⟨(i + 1, w ++ [byteAt q i - 96]), ⟨.frz [], [0, 1, 4], ⟨rfl, rfl, ?_, rfl, rfl, rfl, rfl, rfl, trivial⟩, ⟨rfl, rfl, ?_, trivial⟩, by decide, rfl, rfl, rfl⟩, ⟨h2, hgood⟩, by first | ((try dsimp only); omega) | (simp; omega)⟩
        · show V.own 4 0 _ = V.own 4 0 _
          congr 1
          simp
        · refine congrArg (fun x => some (Obj.arr (.int .i64) x true)) ?_
          simp [w2, List.take_of_length_le]
          exact (by omega : byteAt q i - 97 + 1 = byteAt q i - 96)
      · rw [if_neg hA] at hbad hgood
        by_cases hB : 65 ≤ byteAt q i ∧ byteAt q i ≤ 73
        · replace hgood := hgood _ (by rw [if_pos hB])
          have w2 : IntKind.wrap .i64 (IntKind.wrap .u8 (byteAt q i - 65)) = byteAt q i - 65 := by
            rw [IntWalk.u8_in _ (by omega), IntWalk.i64_in _ (by omega)]
          refine stp ?_; try with_reducible exact True.intro
          refine brF (decide_eq_false (by omega)) ?_
          refine stp ?_; try with_reducible exact True.intro
          refine brT (decide_eq_true (by omega)) ?_
          refine stp ?_; try with_reducible exact True.intro
          refine brT (decide_eq_true (by omega)) ?_
          refine stp ?_; try with_reducible exact True.intro
          refine ⟨(i + 1, w ++ [64 - byteAt q i]), ⟨.frz [], [0, 1, 4], ⟨rfl, rfl, ?_, rfl, rfl, rfl, rfl, rfl, trivial⟩, ⟨rfl, rfl, ?_, trivial⟩, by decide, rfl, rfl, rfl⟩, ⟨h2, hgood⟩, by first | ((try dsimp only); omega) | (simp; omega)⟩
          · show V.own 4 0 _ = V.own 4 0 _
            congr 1
            simp
          · refine congrArg (fun x => some (Obj.arr (.int .i64) x true)) ?_
            simp [w2, List.take_of_length_le]
            exact (by omega : -(byteAt q i - 65) - 1 = 64 - byteAt q i)
        · rw [if_neg hB] at hbad
          rw [hbad rfl]
          refine stp ?_; try with_reducible exact True.intro
          by_cases h97 : 97 ≤ byteAt q i
          · refine brT (decide_eq_true (by omega)) ?_
            refine stp ?_; try with_reducible exact True.intro
            refine brF (decide_eq_false (by omega)) ?_
            refine stp ?_; try with_reducible exact True.intro
            refine brT (decide_eq_true (by omega)) ?_
            refine stp ?_; try with_reducible exact True.intro
            refine brF (decide_eq_false (by omega)) ?_
            refine stp ?_; try with_reducible exact True.intro
            exact (fitK [] [])
          · refine brF (decide_eq_false (by omega)) ?_
            refine stp ?_; try with_reducible exact True.intro
            by_cases h65 : 65 ≤ byteAt q i
            · refine brT (decide_eq_true (by omega)) ?_
              refine stp ?_; try with_reducible exact True.intro
              refine brF (decide_eq_false (by omega)) ?_
              refine stp ?_; try with_reducible exact True.intro
              exact (fitK [] [])
            · refine brF (decide_eq_false (by omega)) ?_
              refine stp ?_; try with_reducible exact True.intro
              exact (fitK [] [])
    · have e7 : i = q.size := by omega
      rw [e7] at hw
      rw [hw] at hsu
      refine stp ?_; try with_reducible exact True.intro
      refine Or.inl ⟨_, rfl, rfl, by first | rfl | (simp; done) | (simp; omega), ?_⟩; refine stp ?_; try with_reducible exact True.intro
      refine Or.inl ⟨_, _, rfl, rfl, by decide, rfl, by first | rfl | omega | (simp; done) | (simp; omega), rfl, by first | rfl | omega | (simp; done) | (simp; omega), by first | omega | (simp; omega), ?_⟩; refine stp ?_; try with_reducible exact True.intro
      refine ⟨(k + 1, l ++ [w]), ⟨.frz [], [4, 1], ⟨?_, rfl, rfl, rfl, trivial⟩, ⟨rfl, rfl, trivial⟩, by decide, rfl, rfl, rfl⟩, ⟨h1, hsu⟩, by first | ((try dsimp only); omega) | (simp; omega)⟩
      show V.own 4 0 _ = V.own 4 0 _
      congr 1
      simp
  · obtain rfl : k = ps.length := by omega
    rw [hl] at hp
    simp only at hp
    have hg := IsTriangulationI l (by omega) (fun w hw => by have := hlr w hw; omega)
    refine stp ?_; try with_reducible exact True.intro
    refine useT (hg.toT) ?_; try with_reducible exact True.intro
    cases hgl : isTri l with
    | true =>
      rw [hgl, if_pos rfl] at hp
      rw [hp]
      refine brF rfl ?_
      refine stp ?_; try with_reducible exact True.intro
      exact (fitK [] [0])
    | false =>
      rw [hgl, if_neg (by simp)] at hp
      rw [hp]
      refine brT rfl ?_
      refine stp ?_; try with_reducible exact True.intro
      exact (fitK [] [])
end Go.Proofs.YtaoepnmhflmhhaaTv
end
section
open Go Go.Proofs.YtaoepnmhflmhhaaVe Go.Proofs.YtaoepnmhflmhhaaTv Go.Proofs
namespace Go.Proofs.YtaoepnmhflmhhaaTv
set_option maxRecDepth 8000
set_option maxHeartbeats 2000000
theorem ParseTriS (s : ByteArray) (hs : s.size ≤ 36) : ConT Try.prog 51 [.s s] (resG0 (parseT s)) (obG0 (parseT s)) := by
  refine conT_of hmix hTab Try.func51 rfl rfl (by kernel_rfl) (by show 1 ≤ Try.f51.ntmps; decide) ?_
  have hsp := SplitByteS s 32 (by omega)
  have hlen := split_len s 32
  have hsz : ∀ q ∈ split s 32, q.size ≤ 36 := fun q hq => Nat.le_trans (split_size (s := s) (b := 32) q hq) hs
  have hp : parseT s = match wordsT (split s 32) (split s 32).length with
    | some g => if isTri g = true then some g else none
    | none => none := rfl
  generalize split s 32 = ps at *
  refine stp ?_; try with_reducible exact True.intro
  refine Or.inl ?_; refine stp ?_; try with_reducible exact True.intro
  refine useT (hsp) ?_; try with_reducible exact True.intro
  refine ⟨Nat × List (List Int), fun a => a.1 ≤ ps.length ∧ wordsT ps a.1 = some a.2, fun a => ps.length - a.1, fun a => [(4, .own 0 0 a.2.length), (5, .own 1 0 ps.length), (6, .i a.1)], fun a => [.arr (.list (.int .i64)) a.2 true, .arr .str ps true], ⟨(0, []), (fitK [] [0, 1]), Nat.zero_le _, rfl⟩, fun ⟨k, l⟩ ⟨hk, hl⟩ => ?_⟩
  dsimp only at hk hl ⊢
  obtain ⟨hll, hlr⟩ := wordsT_len hsz k l hk hl
  refine stp ?_; try with_reducible exact True.intro
  refine Br.mk (fun h1 => ?_) (fun h1 => ?_) <;> simp [-Int.ofNat_toNat] at h1
  · have hq := hsz (rdT .str ps k) (List.mem_of_getElem? (rdT_get .str ps (k : Int) (by simpa using h1)))
    have hsu : wordsT ps (k + 1) = match letsT (rdT .str ps k) (rdT .str ps k).size with
      | some w => some (l ++ [w])
      | none => none := by
      rw [wordsT, hl]
      cases letsT (rdT .str ps k) (rdT .str ps k).size <;> rfl
    refine stp ?_; try with_reducible exact True.intro
    refine ⟨Nat × List Int, fun a => a.1 ≤ (rdT .str ps k).size ∧ letsT (rdT .str ps k) a.1 = some a.2, fun a => (rdT .str ps k).size - a.1, fun a => [(4, .own 0 0 l.length), (5, .own 1 0 ps.length), (6, .i k), (7, .own 2 0 a.2.length), (8, .i a.1)], fun a => [.arr (.list (.int .i64)) l true, .arr .str ps true, .arr (.int .i64) a.2 true], ⟨(0, []), (fitK [] [0, 1, 2]), Nat.zero_le _, rfl⟩, fun ⟨i, w⟩ ⟨hi, hw⟩ => ?_⟩
    dsimp only at hi hw ⊢
    have hll2 := letsT_len (rdT .str ps k) i w hw
    have qs : ByteArray.size (rdT .str ps ((Int.toNat (k : Int) : Nat) : Int)) = (rdT .str ps k).size := rfl
    have qb : byteAt (rdT .str ps ((Int.toNat (k : Int) : Nat) : Int)) (i : Int) = byteAt (rdT .str ps k) i := rfl
    refine stp ?_; try with_reducible exact True.intro
    refine Br.mk (fun h2 => ?_) (fun h2 => ?_) <;> simp only [decide_eq_true_eq, decide_eq_false_iff_not, ne_eq, Decidable.not_not, Bool.not_eq_eq_eq_not, Bool.not_true, Bool.not_false] at h2
    · replace h2 : i + 1 ≤ (rdT .str ps k).size := by omega
      have hb := byteAt_rng (rdT .str ps k) i
      have hsu2 : letsT (rdT .str ps k) (i + 1) = match letT (byteAt (rdT .str ps k) i) with
        | some x => some (w ++ [x])
        | none => none := by
        rw [letsT, hw]
        cases letT (byteAt (rdT .str ps k) i) <;> rfl
      have hbad : letT (byteAt (rdT .str ps k) i) = none → parseT s = none := fun e => by
        have e1 : letsT (rdT .str ps k) (rdT .str ps k).size = none := letsT_none (rdT .str ps k) (by rw [hsu2, e]) (rdT .str ps k).size h2
        rw [e1] at hsu
        rw [hp, wordsT_none hsu ps.length h1]
      have hgood : ∀ x, letT (byteAt (rdT .str ps k) i) = some x → letsT (rdT .str ps k) (i + 1) = some (w ++ [x]) := fun x e => by rw [hsu2, e]
      unfold letT at hbad hgood
      by_cases hA : 97 ≤ byteAt (rdT .str ps k) i ∧ byteAt (rdT .str ps k) i ≤ 105
      · replace hgood := hgood _ (by rw [if_pos hA])
        have w2 : IntKind.wrap .i64 (byteAt (rdT .str ps ((Int.toNat (k : Int) : Nat) : Int)) (i : Int)) = byteAt (rdT .str ps k) i := by rw [IntWalk.i64_in _ (by omega)]; rfl
        refine stp ?_; try with_reducible exact True.intro
        refine brT (decide_eq_true (by omega)) ?_
        refine stp ?_; try with_reducible exact True.intro
        refine brT (decide_eq_true (by omega)) ?_
        refine stp ?_; try with_reducible exact True.intro
        refine ⟨(i + 1, w ++ [byteAt (rdT .str ps k) i - 96]), ⟨.frz [], [0, 1, 4], ⟨rfl, rfl, rfl, ?_, rfl, trivial⟩, ⟨rfl, rfl, ?_, trivial⟩, by decide, rfl, rfl, rfl⟩, ⟨h2, hgood⟩, by first | ((try dsimp only); omega) | (simp; omega)⟩
        · show V.own 4 0 _ = V.own 4 0 _
          congr 1
          simp
        · refine congrArg (fun x => some (Obj.arr (.int .i64) x true)) ?_
          have w3 : byteAt (rdT .str ps k) i - 97 + 1 = byteAt (rdT .str ps k) i - 96 := by omega
          rw [w2, w3]
          simp [List.take_of_length_le]
      · rw [if_neg hA] at hbad hgood
        by_cases hB : 65 ≤ byteAt (rdT .str ps k) i ∧ byteAt (rdT .str ps k) i ≤ 73
        · replace hgood := hgood _ (by rw [if_pos hB])
          have w2 : IntKind.wrap .i64 (byteAt (rdT .str ps ((Int.toNat (k : Int) : Nat) : Int)) (i : Int)) = byteAt (rdT .str ps k) i := by rw [IntWalk.i64_in _ (by omega)]; rfl
          refine stp ?_; try with_reducible exact True.intro
          refine brF (decide_eq_false (by omega)) ?_
          refine stp ?_; try with_reducible exact True.intro
          refine brT (decide_eq_true (by omega)) ?_
          refine stp ?_; try with_reducible exact True.intro
          refine brT (decide_eq_true (by omega)) ?_
          refine stp ?_; try with_reducible exact True.intro
          refine ⟨(i + 1, w ++ [64 - byteAt (rdT .str ps k) i]), ⟨.frz [], [0, 1, 4], ⟨rfl, rfl, rfl, ?_, rfl, trivial⟩, ⟨rfl, rfl, ?_, trivial⟩, by decide, rfl, rfl, rfl⟩, ⟨h2, hgood⟩, by first | ((try dsimp only); omega) | (simp; omega)⟩
          · show V.own 4 0 _ = V.own 4 0 _
            congr 1
            simp
          · refine congrArg (fun x => some (Obj.arr (.int .i64) x true)) ?_
            have w3 : -(byteAt (rdT .str ps k) i - 65 + 1) = 64 - byteAt (rdT .str ps k) i := by omega
            rw [w2, w3]
            simp [List.take_of_length_le]
        · rw [if_neg hB] at hbad
          rw [hbad rfl]
          refine stp ?_; try with_reducible exact True.intro
          by_cases h97 : 97 ≤ byteAt (rdT .str ps k) i
          · refine brT (decide_eq_true (by omega)) ?_
            refine stp ?_; try with_reducible exact True.intro
            refine brF (decide_eq_false (by omega)) ?_
            refine stp ?_; try with_reducible exact True.intro
            refine brT (decide_eq_true (by omega)) ?_
            refine stp ?_; try with_reducible exact True.intro
            refine brF (decide_eq_false (by omega)) ?_
            refine stp ?_; try with_reducible exact True.intro
            (refine Or.inl ?_; refine stp ?_; try with_reducible exact True.intro); exact (fitK [] [3])
          · refine brF (decide_eq_false (by omega)) ?_
            refine stp ?_; try with_reducible exact True.intro
            by_cases h65 : 65 ≤ byteAt (rdT .str ps k) i
            · refine brT (decide_eq_true (by omega)) ?_
              refine stp ?_; try with_reducible exact True.intro
              refine brF (decide_eq_false (by omega)) ?_
              refine stp ?_; try with_reducible exact True.intro
              (refine Or.inl ?_; refine stp ?_; try with_reducible exact True.intro); exact (fitK [] [3])
            · refine brF (decide_eq_false (by omega)) ?_
              refine stp ?_; try with_reducible exact True.intro
              (refine Or.inl ?_; refine stp ?_; try with_reducible exact True.intro); exact (fitK [] [3])
    · have e7 : i = (rdT .str ps k).size := by omega
      rw [e7] at hw
      rw [hw] at hsu
      refine stp ?_; try with_reducible exact True.intro
      refine Or.inl ⟨_, rfl, rfl, by first | rfl | (simp; done) | (simp; omega), ?_⟩; refine stp ?_; try with_reducible exact True.intro
      refine Or.inl ⟨_, _, rfl, rfl, by decide, rfl, by first | rfl | omega | (simp; done) | (simp; omega), rfl, by first | rfl | omega | (simp; done) | (simp; omega), by first | omega | (simp; omega), ?_⟩; refine stp ?_; try with_reducible exact True.intro
      refine ⟨(k + 1, l ++ [w]), ⟨.frz [], [4, 1], ⟨?_, rfl, rfl, trivial⟩, ⟨rfl, rfl, trivial⟩, by decide, rfl, rfl, rfl⟩, ⟨h1, hsu⟩, by first | ((try dsimp only); omega) | (simp; omega)⟩
      show V.own 4 0 _ = V.own 4 0 _
      congr 1
      simp
  · obtain rfl : k = ps.length := by omega
    rw [hl] at hp
    simp only at hp
    have hg := IsTriangulationS l (by omega) (fun w hw => by have := hlr w hw; omega)
    refine stp ?_; try with_reducible exact True.intro
    refine useT (hg.toT) ?_; try with_reducible exact True.intro
    cases hgl : isTri l with
    | true =>
      rw [hgl, if_pos rfl] at hp
      rw [hp]
      refine brF rfl ?_
      refine stp ?_; try with_reducible exact True.intro
      exact (fitK [] [0])
    | false =>
      rw [hgl, if_neg (by simp)] at hp
      rw [hp]
      refine brT rfl ?_
      refine stp ?_; try with_reducible exact True.intro
      (refine Or.inl ?_; refine stp ?_; try with_reducible exact True.intro); exact (fitK [] [2])
end Go.Proofs.YtaoepnmhflmhhaaTv
end
section
open Go Go.Proofs.YtaoepnmhflmhhaaVe Go.Proofs.YtaoepnmhflmhhaaTv Go.Proofs
namespace Go.Proofs.YtaoepnmhflmhhaaTv
set_option maxRecDepth 8000
set_option maxHeartbeats 2000000
def exR : List ByteArray := [⟨#[97, 98, 99, 32, 65, 66, 67]⟩, ⟨#[97, 98, 99, 32, 65, 67, 66]⟩, ⟨#[97, 98, 99, 32, 65, 100, 101, 32, 66, 68, 102, 32, 67, 70, 69]⟩, ⟨#[97, 98, 67, 32, 66, 100, 101, 32, 99, 68, 102, 32, 65, 69, 70]⟩, ⟨#[97, 98, 99, 32, 65, 100, 101, 32, 102, 66, 103, 32, 68, 69, 104, 32, 67, 72, 105, 32, 70, 73, 71]⟩]
def triText (k : Int) : ByteArray := if 1 ≤ k ∧ k ≤ 5 then rdT .str exR (k - 1) else ⟨#[]⟩
theorem triText_small (k : Int) : (triText k).size ≤ 36 := by
  unfold triText
  split
  · have : k = 1 ∨ k = 2 ∨ k = 3 ∨ k = 4 ∨ k = 5 := by omega
    rcases this with rfl | rfl | rfl | rfl | rfl <;> decide
  · decide
theorem parseT_empty : parseT ⟨#[]⟩ = none := by decide +kernel
def exTri (k : Int) : Option (List (List Int)) := parseT (triText k)
theorem l23TextT (k : Int) : ConT Try.prog 48 [.val (.list .str) exR, .i k] (.s (triText k)) [] := by
  refine conT_of hmix hTab Try.func48 rfl rfl (by kernel_rfl) (by show 2 ≤ Try.f48.ntmps; decide) ?_
  refine stp ?_; try with_reducible exact True.intro
  refine useT ((l1In k 1 5).toT) ?_; try with_reducible exact True.intro
  by_cases h : 1 ≤ k ∧ k ≤ 5
  · have he : triText k = rdT .str exR (k - 1) := if_pos h
    have hl : List.length exR = 5 := rfl
    rw [he]
    simp only [h, and_self, decide_true]
    refine stp ?_; try with_reducible exact True.intro
    exact (fitK [] [])
  · have he : triText k = ⟨#[]⟩ := if_neg h
    rw [he]
    simp only [h, decide_false]
    refine stp ?_; try with_reducible exact True.intro
    exact (fitK [] [])
theorem ExampleTriS (k : Int) : ConT Try.prog 13 [.i k] (resG0 (exTri k)) (obG0 (exTri k)) := by
  refine conT_of hmix hTab Try.func13 rfl rfl (by kernel_rfl) (by show 1 ≤ Try.f13.ntmps; decide) ?_
  have hp := ParseTriS (triText k) (triText_small k)
  have he : exTri k = parseT (triText k) := rfl
  rw [he]
  refine stp ?_; try with_reducible exact True.intro
  refine useT (l23TextT k) ?_; try with_reducible exact True.intro
  cases hc : parseT (triText k) with
  | none =>
    rw [hc] at hp
    simp only [resG0, obG0] at hp
    refine useT (hp) ?_; try with_reducible exact True.intro
    exact (fitK [] [1])
  | some g =>
    rw [hc] at hp
    simp only [resG0, obG0] at hp
    refine useT (hp) ?_; try with_reducible exact True.intro
    exact (fitK [] [1])
theorem ExampleTriI (k : Int) : ConT Try.prog 14 [.i k] (resG (exTri k)) (obG (exTri k)) := by
  refine conT_of hmix hTab Try.func14 rfl rfl (by kernel_rfl) (by show 1 ≤ Try.f14.ntmps; decide) ?_
  have hp := ParseTriI (triText k) (triText_small k)
  have he : exTri k = parseT (triText k) := rfl
  rw [he]
  refine stp ?_; try with_reducible exact True.intro
  refine useT ((within k 1 5).toT) ?_; try with_reducible exact True.intro
  by_cases h : 1 ≤ k ∧ k ≤ 5
  · have hx : triText k = rdT .str exR (k - 1) := if_pos h
    rw [hx] at hp ⊢
    simp only [h, and_self, decide_true]
    cases hc : parseT (rdT .str exR (k - 1)) with
    | none =>
      rw [hc] at hp
      simp only [resG, obG] at hp
      refine stp ?_; try with_reducible exact True.intro
      refine useT (hp) ?_; try with_reducible exact True.intro
      exact (fitK [] [])
    | some g =>
      rw [hc] at hp
      simp only [resG, obG] at hp
      refine stp ?_; try with_reducible exact True.intro
      refine useT (hp) ?_; try with_reducible exact True.intro
      exact (fitK [] [1])
  · have hx : triText k = ⟨#[]⟩ := if_neg h
    rw [hx, parseT_empty]
    simp only [h, decide_false]
    refine stp ?_; try with_reducible exact True.intro
    exact (fitK [] [])
theorem wordsT_row {ps : List ByteArray} : ∀ (k : Nat) (l : List (List Int)), wordsT ps k = some l → l.length = k
  | 0, l, h => by
    injection h with h
    rw [← h]; rfl
  | k + 1, l, h => by
    unfold wordsT at h
    split at h
    · rename_i l0 w h1 h2
      injection h with h
      have := wordsT_row k l0 h1
      rw [← h]; simp [this]
    · cases h
theorem exTri_facts {k : Int} {g : List (List Int)} (h : exTri k = some g) : g.length ≤ 37 ∧ (∀ r ∈ g, r.length ≤ 36) := by
  unfold exTri parseT at h
  have hsz := triText_small k
  split at h
  · rename_i l hl
    split at h
    · injection h with h
      subst h
      have h1 := wordsT_row _ _ hl
      have h2 := split_len (triText k) 32
      exact ⟨by omega, (wordsT_len (fun q hq => Nat.le_trans (split_size q hq) hsz) _ _ (Nat.le_refl _) hl).2⟩
    · cases h
  · cases h
theorem lawExampleTri (k : Int) : ConS Try.prog 4 [.i k] (.b true) := by
  refine conS_of hmix hTab Try.func4 rfl rfl (by kernel_rfl) (by show 1 ≤ Try.f4.ntmps; decide) rfl ?_
  have hS := ExampleTriS k
  have hI := ExampleTriI k
  cases hc : exTri k with
  | some r =>
    rw [hc] at hS hI
    simp only [resG0, obG0] at hS
    simp only [resG, obG] at hI
    obtain ⟨hrl, hrw⟩ := exTri_facts hc
    have htr := total_le hrw
    have htr0 := total_nonneg r
    have htr2 : total r ≤ 2000 := by omega
    have hr4 : ∀ x ∈ r, (x.length : Int) ≤ 274877906944 := fun x hx => by have := hrw x hx; omega
    have hml := marksR_length 1 r
    refine stp ?_; try with_reducible exact True.intro
    refine useT (hS) ?_; try with_reducible exact True.intro
    refine useT (hI) ?_; try with_reducible exact True.intro
    refine useT ((eqIntSS r r (by omega) hr4).toT) ?_; try with_reducible exact True.intro
    refine brF (by simp) ?_
    refine stp ?_; try with_reducible exact True.intro
    refine useI [1] (markIntSS r 1 (by omega) (by omega)) ?_; try with_reducible exact True.intro
    refine useT ((heldIntSS r 1 (by omega) (by omega)).toT) ?_; try with_reducible exact True.intro
    refine brF (by simp; omega) ?_
    refine stp ?_; try with_reducible exact True.intro
    refine Br.mk (fun h9 => ?_) (fun h9 => ?_) <;> simp [-Int.ofNat_toNat] at h9
    refine stp ?_; try with_reducible exact True.intro
    refine useT (hI) ?_; try with_reducible exact True.intro
    refine useT ((eqIntSS r r (by omega) hr4).toT) ?_; try with_reducible exact True.intro
    refine brF (by simp) ?_
    refine stp ?_; try with_reducible exact True.intro
    refine useT ((heldIntSS r 1 (by omega) (by omega)).toT) ?_; try with_reducible exact True.intro
    refine brF (by simp; omega) ?_
    refine stp ?_; try with_reducible exact True.intro
    refine Br.mk (fun h11 => ?_) (fun h11 => ?_) <;> simp [-Int.ofNat_toNat] at h11
    refine stp ?_; try with_reducible exact True.intro
  | none =>
    rw [hc] at hS hI
    simp only [resG0, obG0] at hS
    simp only [resG, obG] at hI
    refine stp ?_; try with_reducible exact True.intro
    refine useT (hS) ?_; try with_reducible exact True.intro
    refine useT (hI) ?_; try with_reducible exact True.intro
    refine useT ((eqIntSS [] [] (by simp) (by simp)).toT) ?_; try with_reducible exact True.intro
    refine useT ((markIntSSN 1).toT) ?_; try with_reducible exact True.intro
    refine useT ((heldIntSSN 1).toT) ?_; try with_reducible exact True.intro
    refine useT (hI) ?_; try with_reducible exact True.intro
    refine useT ((eqIntSS [] [] (by simp) (by simp)).toT) ?_; try with_reducible exact True.intro
    refine useT ((heldIntSSN 1).toT) ?_; try with_reducible exact True.intro
end Go.Proofs.YtaoepnmhflmhhaaTv
end
section
open Go Go.Proofs.YtaoepnmhflmhhaaVe Go.Proofs.YtaoepnmhflmhhaaTv Go.Proofs
namespace Go.Proofs.YtaoepnmhflmhhaaTv
set_option maxRecDepth 8000
set_option maxHeartbeats 2000000
def seG : List (List Int) := [[1, 2, -1, -2]]
def seT : List (List Int) := [[1, 2, 3], [-1, -2, -3]]
theorem exG1 : exG 1 = some seG := by decide +kernel
theorem exT1 : exTri 1 = some seT := by decide +kernel
def sesV : V := .agg [.own 0 0 1, .own 1 0 2, .own 2 0 3, .s ByteArray.empty, .own 3 0 2]
def sesO (g t : List (List Int)) (c w : List Int) : List Obj := [.arr (.list (.int .i64)) g true, .arr (.list (.int .i64)) t true, .arr (.int .i64) c true, .arr (.int .i64) w true]
theorem NewSessionI : ConT Try.prog 22 [] sesV (sesO seG seT [1, 1, 2] [1, 2]) := by
  refine conT_of hmix hTab Try.func22 rfl rfl (by kernel_rfl) (by show 0 ≤ Try.f22.ntmps; decide) ?_
  have wg := ExampleGluingI 1
  have wt := ExampleTriI 1
  rw [exG1] at wg
  rw [exT1] at wt
  simp only [resG, obG] at wg wt
  refine stp ?_; try with_reducible exact True.intro
  refine useT (wg) ?_; try with_reducible exact True.intro
  refine useT (wt) ?_; try with_reducible exact True.intro
  exact (fitK [] [1, 2, 3, 4])
theorem NewSessionS : ConT Try.prog 21 [] sesV (sesO seG seT [1, 1, 2] [1, 2]) := by
  refine conT_of hmix hTab Try.func21 rfl rfl (by kernel_rfl) (by show 0 ≤ Try.f21.ntmps; decide) ?_
  have wg := ExampleGluingS 1
  have wt := ExampleTriS 1
  rw [exG1] at wg
  rw [exT1] at wt
  simp only [resG0, obG0] at wg wt
  refine stp ?_; try with_reducible exact True.intro
  refine useT (wg) ?_; try with_reducible exact True.intro
  refine useT (wt) ?_; try with_reducible exact True.intro
  exact (fitK [] [1, 2, 3, 4])
def sesA (g t : List (List Int)) (c w : List Int) : V := .agg [.ill g, .ill t, .il c, .s ByteArray.empty, .il w]
theorem eqSession (g t : List (List Int)) (c w : List Int) (hg : (g.length : Int) ≤ 1000) (ht : (t.length : Int) ≤ 1000) (hc : (c.length : Int) ≤ 1000) (hw : (w.length : Int) ≤ 1000) (hgr : ∀ r ∈ g, (r.length : Int) ≤ 1000) (htr : ∀ r ∈ t, (r.length : Int) ≤ 1000) : ConS Try.prog 23 [sesA g t c w, sesA g t c w] (.b true) := by
  refine conS_of hmix hTab Try.func23 rfl rfl (by kernel_rfl) (by show 2 ≤ Try.f23.ntmps; decide) rfl ?_
  have w1 := eqIntSS g g (by omega) (fun r hr => by have := hgr r hr; omega)
  have w2 := eqIntSS t t (by omega) (fun r hr => by have := htr r hr; omega)
  have w3 := eqIntS c c (by omega)
  have w4 := eqIntS w w (by omega)
  rw [decide_eq_true rfl] at w1 w2 w3 w4
  unfold sesA
  refine stp ?_; try with_reducible exact True.intro
  refine useT (w1.toT) ?_; try with_reducible exact True.intro
  refine useT (w2.toT) ?_; try with_reducible exact True.intro
  refine useT (w3.toT) ?_; try with_reducible exact True.intro
  refine brF (by simp) ?_
  refine stp ?_; try with_reducible exact True.intro
  refine useT (w4.toT) ?_; try with_reducible exact True.intro
theorem heldSession (g t : List (List Int)) (c w : Nat) (hg : (g.length : Int) ≤ 1000) (ht : (t.length : Int) ≤ 1000) (hc : (c : Int) ≤ 1000) (hw : (w : Int) ≤ 1000) (hgr : total g ≤ 100000) (htr : total t ≤ 100000) : ConS Try.prog 25 [sesA (marksR 1 g) (marksR (1 + total g) t) (marks (1 + total g + total t) c) (marks (1 + total g + total t + c) w), .i 1] (.i (1 + total g + total t + c + w)) := by
  refine conS_of hmix hTab Try.func25 rfl rfl (by kernel_rfl) (by show 2 ≤ Try.f25.ntmps; decide) rfl ?_
  have g0 := total_nonneg g
  have t0 := total_nonneg t
  have w1 := heldIntSS g 1 (by omega) (by omega)
  have w2 := heldIntSS t (1 + total g) (by omega) (by omega)
  have w3 := heldIntS (1 + total g + total t) c (by omega) (by omega)
  have w4 := heldIntS (1 + total g + total t + c) w (by omega) (by omega)
  unfold sesA
  refine stp ?_; try with_reducible exact True.intro
  refine useT (w1.toT) ?_; try with_reducible exact True.intro
  refine brF (decide_eq_false (by omega)) ?_
  refine stp ?_; try with_reducible exact True.intro
  refine useT (w2.toT) ?_; try with_reducible exact True.intro
  refine brF (decide_eq_false (by omega)) ?_
  refine stp ?_; try with_reducible exact True.intro
  refine useT (w3.toT) ?_; try with_reducible exact True.intro
  refine brF (decide_eq_false (by omega)) ?_
  refine stp ?_; try with_reducible exact True.intro
  refine useT (w4.toT) ?_; try with_reducible exact True.intro
  refine brF (decide_eq_false (by omega)) ?_
  refine stp ?_; try with_reducible exact True.intro
theorem markSession (g t : List (List Int)) (c w : List Int) (hg : (g.length : Int) ≤ 1000) (ht : (t.length : Int) ≤ 1000) (hc : (c.length : Int) ≤ 1000) (hw : (w.length : Int) ≤ 1000) (hgr : total g ≤ 100000) (htr : total t ≤ 100000) : ConI Try.prog 24 [.agg [.own 0 0 g.length, .own 1 0 t.length, .own 2 0 c.length, .s ByteArray.empty, .own 3 0 w.length], .i 1] (sesO g t c w) (.i (1 + total g + total t + c.length + w.length)) (sesO (marksR 1 g) (marksR (1 + total g) t) (marks (1 + total g + total t) c.length) (marks (1 + total g + total t + c.length) w.length)) := by
  refine conI_of hmix hTab Try.func24 rfl rfl (by kernel_rfl) (by show 2 ≤ Try.f24.ntmps; decide) ?_
  have g0 := total_nonneg g
  have t0 := total_nonneg t
  have w1 := markIntSS g 1 (by omega) (by omega)
  have w2 := markIntSS t (1 + total g) (by omega) (by omega)
  have w3 := markIntS c (1 + total g + total t) (by omega) (by omega)
  have w4 := markIntS w (1 + total g + total t + c.length) (by omega) (by omega)
  unfold sesO
  refine stp ?_; try with_reducible exact True.intro
  refine useI [0] (w1) ?_; try with_reducible exact True.intro
  refine useI [1] (w2) ?_; try with_reducible exact True.intro
  refine useI [2] (w3) ?_; try with_reducible exact True.intro
  refine useI [3] (w4) ?_; try with_reducible exact True.intro
  exact (fitK [] [0, 1, 2, 3])
theorem lawNewSession : ConS Try.prog 6 [] (.b true) := by
  refine conS_of hmix hTab Try.func6 rfl rfl (by kernel_rfl) (by show 0 ≤ Try.f6.ntmps; decide) rfl ?_
  have wS := NewSessionS
  have wI := NewSessionI
  have we := eqSession seG seT [1, 1, 2] [1, 2] (by decide) (by decide) (by decide) (by decide) (by decide) (by decide)
  have wm := markSession seG seT [1, 1, 2] [1, 2] (by decide) (by decide) (by decide) (by decide) (by decide) (by decide)
  have wh := heldSession seG seT 3 2 (by decide) (by decide) (by decide) (by decide) (by decide) (by decide)
  unfold sesV at wS wI
  refine stp ?_; try with_reducible exact True.intro
  refine useT (wS) ?_; try with_reducible exact True.intro
  refine useT (wI) ?_; try with_reducible exact True.intro
  refine useT we.toT ?_ ⟨⟨⟨_, _, rfl, by decide, by first | rfl | decide⟩, ⟨_, _, rfl, by decide, by first | rfl | decide⟩, ⟨_, _, rfl, by decide, by first | rfl | decide⟩, rfl, ⟨_, _, rfl, by decide, by first | rfl | decide⟩, trivial⟩, ⟨⟨_, _, rfl, by decide, by first | rfl | decide⟩, ⟨_, _, rfl, by decide, by first | rfl | decide⟩, ⟨_, _, rfl, by decide, by first | rfl | decide⟩, rfl, ⟨_, _, rfl, by decide, by first | rfl | decide⟩, trivial⟩, trivial⟩
  refine stp ?_; try with_reducible exact True.intro
  refine useI [5, 6, 7, 8] (wm) ?_; try with_reducible exact True.intro
  refine useT wh.toT ?_ ⟨⟨⟨_, _, rfl, by decide, by first | rfl | decide⟩, ⟨_, _, rfl, by decide, by first | rfl | decide⟩, ⟨_, _, rfl, by decide, by first | rfl | decide⟩, rfl, ⟨_, _, rfl, by decide, by first | rfl | decide⟩, trivial⟩, rfl, trivial⟩
  refine stp ?_; try with_reducible exact True.intro
  refine useT (wI) ?_; try with_reducible exact True.intro
  refine useT we.toT ?_ ⟨⟨⟨_, _, rfl, by decide, by first | rfl | decide⟩, ⟨_, _, rfl, by decide, by first | rfl | decide⟩, ⟨_, _, rfl, by decide, by first | rfl | decide⟩, rfl, ⟨_, _, rfl, by decide, by first | rfl | decide⟩, trivial⟩, ⟨⟨_, _, rfl, by decide, by first | rfl | decide⟩, ⟨_, _, rfl, by decide, by first | rfl | decide⟩, ⟨_, _, rfl, by decide, by first | rfl | decide⟩, rfl, ⟨_, _, rfl, by decide, by first | rfl | decide⟩, trivial⟩, trivial⟩
  refine stp ?_; try with_reducible exact True.intro
  refine useT wh.toT ?_ ⟨⟨⟨_, _, rfl, by decide, by first | rfl | decide⟩, ⟨_, _, rfl, by decide, by first | rfl | decide⟩, ⟨_, _, rfl, by decide, by first | rfl | decide⟩, rfl, ⟨_, _, rfl, by decide, by first | rfl | decide⟩, trivial⟩, rfl, trivial⟩
  refine stp ?_; try with_reducible exact True.intro
end Go.Proofs.YtaoepnmhflmhhaaTv
end
