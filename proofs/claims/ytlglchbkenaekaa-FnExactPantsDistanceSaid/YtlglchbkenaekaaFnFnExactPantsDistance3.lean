/- What functions of the program give: each contract holds for all arguments that its own sentence names. -/
import Derived.Test.YtlglchbkenaekaaFnFnExactPantsDistance2
set_option linter.unusedVariables false
set_option linter.unusedSimpArgs false
section
open Go Go.Proofs.YtlglchbkenaekaaVe Go.Proofs.YtlglchbkenaekaaTv Go.Proofs
namespace Go.Proofs.YtlglchbkenaekaaTv
set_option maxRecDepth 8000
set_option maxHeartbeats 2000000
theorem map_agE {l : List (Nat × Nat)} {i : Nat} (h : i < l.length) : (l.map agE).getD i (0, 0, ()) = agE (l.getD i (0, 0)) := by
  simp [h]
theorem SwapEndsI (g : Int) (ll : List (List Int)) (e way : Int) (hll : (ll.length : Int) ≤ 1048576) : ConT Try.prog 24 [.i g, .ill ll, .i e, .i way] (.tup [if swapOk g ll e way = true then .own 0 0 ll.length else .nil .unit, .b (swapOk g ll e way)]) (if swapOk g ll e way = true then [.arr (.list (.int .i64)) (swp ll e.toNat way.toNat) true] else []) := by
  refine conT_of hmix hTab Try.func24 rfl rfl (by kernel_rfl) (by show 4 ≤ Try.f24.ntmps; decide) ?_
  have hc := IsPantsI g ll hll
  cases hP : isPants g ll with
  | false =>
    rw [hP] at hc
    rw [show swapOk g ll e way = false by simp [swapOk, hP]]
    refine stp ?_; try with_reducible exact True.intro
    refine useT (hc.toT) ?_; try with_reducible exact True.intro
    exact (fitK [] [])
  | true =>
    rw [hP] at hc
    obtain ⟨n, hn, n2, n6, hg, hlen, hl9, hok⟩ := pants_facts hP
    by_cases he : 0 ≤ e ∧ e ≤ (ll.length : Int) - 1
    · obtain ⟨e, rfl⟩ : ∃ e' : Nat, e = e' := ⟨e.toNat, by omega⟩
      obtain ⟨r1, r2, r3, r4⟩ := rowOk_facts (hok e (by omega))
      have ql : List.length (rdT (.list (.int .i64)) ll (e : Int)) = (rdR ll e).length := rfl; have q0 : @Eq Int (rdT (.int .i64) (rdT (.list (.int .i64)) ll (e : Int)) 0) (rd (rdR ll e) 0) := rfl; have q1 : @Eq Int (rdT (.int .i64) (rdT (.list (.int .i64)) ll (e : Int)) 1) (rd (rdR ll e) 1) := rfl; have qlo : List.length (rdT (.list (.int .i64)) ll (((e : Int).toNat : Nat) : Int)) = (rdR ll e).length := rfl; have q0o : @Eq Int (rdT (.int .i64) (rdT (.list (.int .i64)) ll (((e : Int).toNat : Nat) : Int)) 0) (rd (rdR ll e) 0) := rfl; have q1o : @Eq Int (rdT (.int .i64) (rdT (.list (.int .i64)) ll (((e : Int).toNat : Nat) : Int)) 1) (rd (rdR ll e) 1) := rfl
      by_cases h2 : rd (rdR ll e) 0 = rd (rdR ll e) 1
      · rw [show swapOk g ll e way = false by simp [swapOk, h2]]
        refine stp ?_; try with_reducible exact True.intro
        refine useT (hc.toT) ?_; try with_reducible exact True.intro
        refine useT ((within e 0 ((ll.length : Int) - 1)).toT) ?_; try with_reducible exact True.intro
        simp only [he, and_self, decide_true]
        refine stp ?_; try with_reducible exact True.intro
        refine brT (decide_eq_true h2) ?_
        refine stp ?_; try with_reducible exact True.intro
        exact (fitK [] [])
      · by_cases hw : 0 ≤ way ∧ way ≤ 1
        · obtain ⟨way, rfl⟩ : ∃ w' : Nat, way = w' := ⟨way.toNat, by omega⟩
          rw [show swapOk g ll e way = true by simp [swapOk, hP, he, hw, h2]]
          obtain ⟨hl9, hrow, lu, lv, a1, a2, b1, b2⟩ := swp_facts (way := way) hP (by omega : e < ll.length) h2 (by omega)
          have hr : ∀ j : Nat, j < ll.length → (rdR ll j).length = 2 := fun j hj => hrow _ (by simp [rdR, hj])
          refine stp ?_; try with_reducible exact True.intro
          refine useT (hc.toT) ?_; try with_reducible exact True.intro
          refine useT ((within e 0 ((ll.length : Int) - 1)).toT) ?_; try with_reducible exact True.intro
          simp only [he, and_self, decide_true]
          refine stp ?_; try with_reducible exact True.intro
          refine brF (decide_eq_false h2) ?_
          refine stp ?_; try with_reducible exact True.intro
          refine useT ((within way 0 1).toT) ?_; try with_reducible exact True.intro
          simp only [hw, and_self, decide_true]
          refine stp ?_; try with_reducible exact True.intro
          refine .inr ⟨_, _, _, otherEnds ll (rd (rdR ll e) 0) e hl9 hr, by repeat (first | exact trivial | refine ⟨by first | exact rfl | exact trivial | exact ⟨_, rfl, rfl⟩ | exact ⟨_, _, rfl, by first | (simp; done) | (simp; omega), by first | (simp; done) | (simp [List.take_of_length_le]; done) | (rw [List.drop_zero]; exact List.take_of_length_le (by first | omega | (simp; omega))) | (simp [List.take_of_length_le]; omega)⟩ | exact ⟨_, rfl, by first | (simp; done) | (simp; omega), by first | (simp; done) | (simp [List.take_of_length_le]; done) | (rw [List.drop_zero]; exact List.take_of_length_le (by first | omega | (simp; omega))) | (simp [List.take_of_length_le]; omega)⟩, ?_⟩), rfl, rfl, by first | exact ⟨rfl, trivial⟩ | decide | (simp [okOs, okO]; done) | (simp [okOs, okO, okWs, okW, most]; done) | (simp [okOs, okO, okWs, okW, most]; omega), ?_⟩; refine stp ?_; try with_reducible exact True.intro
          refine .inr ⟨_, _, _, otherEnds ll (rd (rdR ll e) 1) e hl9 hr, by repeat (first | exact trivial | refine ⟨by first | exact rfl | exact trivial | exact ⟨_, rfl, rfl⟩ | exact ⟨_, _, rfl, by first | (simp; done) | (simp; omega), by first | (simp; done) | (simp [List.take_of_length_le]; done) | (rw [List.drop_zero]; exact List.take_of_length_le (by first | omega | (simp; omega))) | (simp [List.take_of_length_le]; omega)⟩ | exact ⟨_, rfl, by first | (simp; done) | (simp; omega), by first | (simp; done) | (simp [List.take_of_length_le]; done) | (rw [List.drop_zero]; exact List.take_of_length_le (by first | omega | (simp; omega))) | (simp [List.take_of_length_le]; omega)⟩, ?_⟩), rfl, rfl, by first | exact ⟨rfl, trivial⟩ | decide | (simp [okOs, okO]; done) | (simp [okOs, okO, okWs, okW, most]; done) | (simp [okOs, okO, okWs, okW, most]; omega), ?_⟩; refine stp ?_; try with_reducible exact True.intro
          have hA : @Eq (Int × Int × Unit) (rdT (.pair (.int .i64) (.pair (.int .i64) .unit)) (List.map agE (ends ll (rd (rdR ll e) 0) e ll.length)) ((Int.toNat 1 : Nat) : Int)) (agE (endA ll e)) := map_agE (by omega)
          have hB : @Eq (Int × Int × Unit) (rdT (.pair (.int .i64) (.pair (.int .i64) .unit)) (List.map agE (ends ll (rd (rdR ll e) 1) e ll.length)) ((Int.toNat (way : Int) : Nat) : Int)) (agE (endB ll e way)) := map_agE (by omega)
          simp only [hA, hB, agE]
          have hswp : swp ll e way = (setE (setE ll (endA ll e) (rd (rdR ll e) 1)) (endB ll e way) (rd (rdR ll e) 0)).map normE := rfl
          rw [show ((e : Int).toNat) = e from rfl, show ((way : Int).toNat) = way from rfl, hswp]
          generalize endA ll e = a at *
          generalize endB ll e way = b at *
          have hrl : ∀ r ∈ ll, (r.length : Int) ≤ 274877906944 := fun r hr => by have := hrow r hr; omega
          refine useT (copyRows ll (by omega) hrl) ?_; try with_reducible exact True.intro
          have hga : (ll.getD ((a.1 : Nat) : Int).toNat []).length = 2 := hrow _ (getD_in a1)
          have hna : ∀ {p : Prop}, ll.getD ((a.1 : Nat) : Int).toNat [] = [] → p := fun he => by rw [he] at hga; cases hga
          have hL1 := rowLen_setE (x := rd (rdR ll e) 1) hrow a1
          have hL1l := setE_length ll a (rd (rdR ll e) 1)
          have hgb : ((setE ll a (rd (rdR ll e) 1)).getD ((b.1 : Nat) : Int).toNat []).length = 2 := hL1 _ (getD_in (by omega))
          refine .inr ⟨by first | rfl | trivial, by omega, ⟨fun he => hna he, ?_⟩⟩
          refine stp ?_; try with_reducible exact True.intro
          have hset : List.set ll ((a.1 : Nat) : Int).toNat (List.set (ll.getD ((a.1 : Nat) : Int).toNat []) ((a.2 : Nat) : Int).toNat (rdT (.int .i64) (rdT (.list (.int .i64)) ll (e : Int)) 1)) = setE ll a (rd (rdR ll e) 1) := rfl
          refine .inr ⟨_, rfl, rfl, by simp, by simp, ?_⟩
          rw [hset]
          generalize setE ll a (rd (rdR ll e) 1) = L1 at *
          refine ⟨by simp; omega, ⟨fun he => absurd hgb (by rw [he]; decide), ?_⟩⟩
          refine stp ?_; try with_reducible exact True.intro
          have hL2 := rowLen_setE (x := rd (rdR ll e) 0) hL1 (by omega : b.1 < L1.length)
          have hL2l := setE_length L1 b (rd (rdR ll e) 0)
          have hset2 : L1.set ((b.1 : Nat) : Int).toNat ((L1.getD ((b.1 : Nat) : Int).toNat []).set ((b.2 : Nat) : Int).toNat (rdT (.int .i64) (rdT (.list (.int .i64)) ll (e : Int)) 0)) = setE L1 b (rd (rdR ll e) 0) := rfl
          generalize hLL : setE L1 b (rd (rdR ll e) 0) = L2 at *
          refine ⟨Nat, fun k => k ≤ L2.length, fun k => L2.length - k, fun k => [(14, .own 0 0 ll.length), (94, .own 0 0 ll.length), (95, .i ll.length), (96, .i k)], fun k => [.arr (.list (.int .i64)) ((L2.take k).map normE ++ L2.drop k) true], ⟨0, ⟨.jn 4 ⟨Nat.zero_le _, _, rfl, rfl, by simp, by simp, rfl⟩ (.frz []), [4], ⟨rfl, rfl, rfl, rfl, trivial⟩, ⟨?_, trivial⟩, by decide, rfl, rfl, rfl⟩, Nat.zero_le _⟩, fun k hk => ?_⟩
          · show some (Obj.arr (.list (.int .i64)) (L1.set ((b.1 : Nat) : Int).toNat ((L1.getD ((b.1 : Nat) : Int).toNat []).set ((b.2 : Nat) : Int).toNat (rdT (.int .i64) (rdT (.list (.int .i64)) ll (e : Int)) 0))) true) = _
            rw [hset2]
            simp [Obj.ren]
          dsimp only at hk ⊢
          have hlen : ((L2.take k).map normE ++ L2.drop k).length = ll.length := by simp; omega
          refine stp ?_; try with_reducible exact True.intro
          refine Br.mk (fun h2 => ?_) (fun h2 => ?_) <;> simp [-Int.ofNat_toNat] at h2
          · have hg : ((L2.take k).map normE ++ L2.drop k).getD (k : Int).toNat [] = rdR L2 k := by
              show ((L2.take k).map normE ++ L2.drop k).getD k [] = _
              rw [drop_consR (by omega), List.getD_eq_getElem?_getD, List.getElem?_append_right (by simp; omega)]
              simp [show k - min k L2.length = 0 by omega]
            have hg2 : (rdR L2 k).length = 2 := hL2 _ (by simp [rdR, show k < L2.length by omega])
            refine stp ?_; try with_reducible exact True.intro
            refine .inr ⟨by first | rfl | trivial, by omega, ⟨fun he => absurd hg2 (by rw [← hg, he]; decide), ?_⟩⟩
            simp only [hg]
            refine stp ?_; try with_reducible exact True.intro
            refine .inr ⟨_, _, _, pair (rd (rdR L2 k) 0) (rd (rdR L2 k) 1), by repeat (first | exact trivial | refine ⟨by first | exact rfl | exact trivial | exact ⟨_, rfl, rfl⟩ | exact ⟨_, _, rfl, by first | (simp; done) | (simp; omega), by first | (simp; done) | (simp [List.take_of_length_le]; done) | (rw [List.drop_zero]; exact List.take_of_length_le (by first | omega | (simp; omega))) | (simp [List.take_of_length_le]; omega)⟩ | exact ⟨_, rfl, by first | (simp; done) | (simp; omega), by first | (simp; done) | (simp [List.take_of_length_le]; done) | (rw [List.drop_zero]; exact List.take_of_length_le (by first | omega | (simp; omega))) | (simp [List.take_of_length_le]; omega)⟩, ?_⟩), rfl, rfl, by first | exact ⟨rfl, trivial⟩ | decide | (simp [okOs, okO]; done) | (simp [okOs, okO, okWs, okW, most]; done) | (simp [okOs, okO, okWs, okW, most]; omega), ?_⟩; refine stp ?_; try with_reducible exact True.intro
            have hset3 : ((L2.take k).map normE ++ L2.drop k).set (k : Int).toNat (normE (rdR L2 k)) = (L2.take (k + 1)).map normE ++ L2.drop (k + 1) := by
              show ((L2.take k).map normE ++ L2.drop k).set k (normE (rdR L2 k)) = _
              rw [take_succR (by omega), drop_consR (by omega), List.map_append, List.set_append_right _ _ (by simp; omega)]
              simp [show k - min k L2.length = 0 by omega]
            refine ⟨k + 1, ⟨.frz [], [0], ⟨rfl, rfl, rfl, rfl, trivial⟩, ⟨?_, trivial⟩, by decide, rfl, rfl, rfl⟩, by first | ((try dsimp only); omega) | (simp; omega), by first | ((try dsimp only); omega) | (simp; omega)⟩
            rw [← hset3]
            rfl
          · obtain rfl : k = L2.length := by omega
            refine stp ?_; try with_reducible exact True.intro
            exact (fitK [] [0])
        · rw [show swapOk g ll e way = false by simp only [swapOk, hw, decide_false, Bool.false_and, Bool.and_false]]
          refine stp ?_; try with_reducible exact True.intro
          refine useT (hc.toT) ?_; try with_reducible exact True.intro
          refine useT ((within e 0 ((ll.length : Int) - 1)).toT) ?_; try with_reducible exact True.intro
          simp only [he, and_self, decide_true]
          refine stp ?_; try with_reducible exact True.intro
          refine brF (decide_eq_false h2) ?_
          refine stp ?_; try with_reducible exact True.intro
          refine useT ((within way 0 1).toT) ?_; try with_reducible exact True.intro
          simp only [hw, decide_false]
          refine stp ?_; try with_reducible exact True.intro
          exact (fitK [] [])
    · rw [show swapOk g ll e way = false by simp only [swapOk, he, decide_false, Bool.false_and, Bool.and_false]]
      refine stp ?_; try with_reducible exact True.intro
      refine useT (hc.toT) ?_; try with_reducible exact True.intro
      refine useT ((within e 0 ((ll.length : Int) - 1)).toT) ?_; try with_reducible exact True.intro
      simp only [he, decide_false]
      refine stp ?_; try with_reducible exact True.intro
      exact (fitK [] [])
end Go.Proofs.YtlglchbkenaekaaTv
end
section
open Go Go.Proofs.YtlglchbkenaekaaVe Go.Proofs.YtlglchbkenaekaaTv Go.Proofs
namespace Go.Proofs.YtlglchbkenaekaaTv
set_option maxRecDepth 8000
set_option maxHeartbeats 2000000
theorem swp_length (ll : List (List Int)) (e way : Nat) : (swp ll e way).length = ll.length := by simp [swp, swp0]
theorem swp_row (ll : List (List Int)) (e way : Nat) : ∀ r ∈ swp ll e way, r.length ≤ 2 := fun r hr => by
  obtain ⟨x, _, rfl⟩ := List.mem_map.1 hr
  simp [normE]
theorem markIntSSN (n : Int) : ConS Try.prog 20 [.nil .unit, .i n] (.i n) := by
  refine conS_of hmix hTab Try.func20 rfl rfl (by kernel_rfl) (by show 2 ≤ Try.f20.ntmps; decide) rfl ?_
  refine stp ?_; try with_reducible exact True.intro
  refine ⟨Unit, fun _ => True, fun _ => 0, fun _ => [(0, .nil .unit), (1, .i n), (5, .i 0)], fun _ => [], ⟨(), ⟨.frz [], [], ⟨rfl, rfl, rfl, trivial⟩, trivial, by decide, rfl, rfl, rfl⟩, trivial⟩, fun _ _ => ?_⟩
  refine stp ?_; try with_reducible exact True.intro
theorem heldIntSSN (n : Int) : ConS Try.prog 25 [.nil .unit, .i n] (.i n) := by
  refine conS_of hmix hTab Try.func25 rfl rfl (by kernel_rfl) (by show 2 ≤ Try.f25.ntmps; decide) rfl ?_
  refine stp ?_; try with_reducible exact True.intro
  refine ⟨Unit, fun _ => True, fun _ => 0, fun _ => [(0, .nil .unit), (1, .i n), (5, .i 0)], fun _ => [], ⟨(), ⟨.frz [], [], ⟨rfl, rfl, rfl, trivial⟩, trivial, by decide, rfl, rfl, rfl⟩, trivial⟩, fun _ _ => ?_⟩
  refine stp ?_; try with_reducible exact True.intro
theorem lawSwapEnds (g : Int) (ll : List (List Int)) (e way : Int) (hl : (ll.length : Int) ≤ 140737488355328) (hr : ∀ r ∈ ll, (r.length : Int) ≤ 140737488355328) : ConS Try.prog 5 [.i g, .ill ll, .i e, .i way] (.b true) := by
  refine conS_of hmix hTab Try.func5 rfl rfl (by kernel_rfl) (by show 4 ≤ Try.f5.ntmps; decide) rfl ?_
  refine stp ?_; try with_reducible exact True.intro
  refine useT ((szIntSS ll 1048576 (by decide) hl hr).toT) ?_; try with_reducible exact True.intro
  refine Br.mk (fun h1 => ?_) (fun h1 => ?_) <;> simp [-Int.ofNat_toNat] at h1
  · refine stp ?_; try with_reducible exact True.intro
  · obtain ⟨h2, h3⟩ := szSS_facts (Int.le_refl _) h1
    have h4 : ∀ r ∈ ll, (r.length : Int) ≤ 274877906944 := fun r hr => by have := h3 r hr; omega
    have h5 := szSS_total h1
    have hS := SwapEndsS g ll e way h2
    have hI := SwapEndsI g ll e way h2
    have hm := markIntSS ll 1 (by omega) (by omega)
    have ht0 := total_nonneg ll
    refine stp ?_; try with_reducible exact True.intro
    refine useT (toIntSS ll h2 h3) ?_; try with_reducible exact True.intro
    refine useT (hS) ?_; try with_reducible exact True.intro
    refine useT (toIntSS ll h2 h3) ?_; try with_reducible exact True.intro
    cases hP : swapOk g ll e way with
    | true =>
      have hpants : isPants g ll = true := by simp only [swapOk, Bool.and_eq_true] at hP; exact hP.1
      obtain ⟨n, hn, n2, n6, hg, hlen, hl9, hok⟩ := pants_facts hpants
      simp only [hP, if_true] at hI ⊢
      have hrl := swp_length ll e.toNat way.toNat
      have hrw := swp_row ll e.toNat way.toNat
      have htr := total_le hrw
      generalize swp ll e.toNat way.toNat = r at *
      rw [← hrl] at hI
      have htr0 := total_nonneg r
      have htr2 : total r ≤ 18 := by omega
      have hr4 : ∀ x ∈ r, (x.length : Int) ≤ 274877906944 := fun x hx => by have := hrw x hx; omega
      have hml := marksR_length 1 r
      refine stp ?_; try with_reducible exact True.intro
      refine useT (hI) ?_; try with_reducible exact True.intro
      refine useT ((eqIntSS r r (by omega) hr4).toT) ?_; try with_reducible exact True.intro
      refine Br.mk (fun h6 => ?_) (fun h6 => ?_) <;> simp [-Int.ofNat_toNat] at h6
      refine stp ?_; try with_reducible exact True.intro
      refine useT (toIntSS ll h2 h3) ?_; try with_reducible exact True.intro
      refine useT ((eqIntSS ll ll (by omega) h4).toT) ?_; try with_reducible exact True.intro
      refine Br.mk (fun h7 => ?_) (fun h7 => ?_) <;> simp [-Int.ofNat_toNat] at h7
      refine stp ?_; try with_reducible exact True.intro
      refine useI [2] (hm) ?_; try with_reducible exact True.intro
      refine brF (by simp; omega) ?_
      refine stp ?_; try with_reducible exact True.intro
      refine useT ((eqIntSS r r (by omega) hr4).toT) ?_; try with_reducible exact True.intro
      refine Br.mk (fun h8 => ?_) (fun h8 => ?_) <;> simp [-Int.ofNat_toNat] at h8
      refine stp ?_; try with_reducible exact True.intro
      refine useI [3] (markIntSS r 1 (by omega) (by omega)) ?_; try with_reducible exact True.intro
      refine useT ((heldIntSS r 1 (by omega) (by omega)).toT) ?_; try with_reducible exact True.intro
      refine brF (by simp; omega) ?_
      refine stp ?_; try with_reducible exact True.intro
      refine Br.mk (fun h9 => ?_) (fun h9 => ?_) <;> simp [-Int.ofNat_toNat] at h9
      refine stp ?_; try with_reducible exact True.intro
      refine useT (toIntSS ll h2 h3) ?_; try with_reducible exact True.intro
      refine useT (hI) ?_; try with_reducible exact True.intro
      refine useT ((eqIntSS r r (by omega) hr4).toT) ?_; try with_reducible exact True.intro
      refine Br.mk (fun h10 => ?_) (fun h10 => ?_) <;> simp [-Int.ofNat_toNat] at h10
      refine stp ?_; try with_reducible exact True.intro
      refine useT ((heldIntSS r 1 (by omega) (by omega)).toT) ?_; try with_reducible exact True.intro
      refine brF (by simp; omega) ?_
      refine stp ?_; try with_reducible exact True.intro
      refine Br.mk (fun h11 => ?_) (fun h11 => ?_) <;> simp [-Int.ofNat_toNat] at h11
      refine stp ?_; try with_reducible exact True.intro
    | false =>
      simp only [hP, Bool.false_eq_true, if_false] at hI ⊢
      refine stp ?_; try with_reducible exact True.intro
      refine useT (hI) ?_; try with_reducible exact True.intro
      refine useT ((eqIntSS [] [] (by simp) (by simp)).toT) ?_; try with_reducible exact True.intro
      refine useT (toIntSS ll h2 h3) ?_; try with_reducible exact True.intro
      refine useT ((eqIntSS ll ll (by omega) h4).toT) ?_; try with_reducible exact True.intro
      refine Br.mk (fun h7 => ?_) (fun h7 => ?_) <;> simp [-Int.ofNat_toNat] at h7
      refine stp ?_; try with_reducible exact True.intro
      refine useI [2] (hm) ?_; try with_reducible exact True.intro
      refine brF (by simp; omega) ?_
      refine stp ?_; try with_reducible exact True.intro
      refine useT ((eqIntSS [] [] (by simp) (by simp)).toT) ?_; try with_reducible exact True.intro
      refine useT ((markIntSSN 1).toT) ?_; try with_reducible exact True.intro
      refine useT ((heldIntSSN 1).toT) ?_; try with_reducible exact True.intro
      refine useT (toIntSS ll h2 h3) ?_; try with_reducible exact True.intro
      refine useT (hI) ?_; try with_reducible exact True.intro
      refine useT ((eqIntSS [] [] (by simp) (by simp)).toT) ?_; try with_reducible exact True.intro
      refine useT ((heldIntSSN 1).toT) ?_; try with_reducible exact True.intro
end Go.Proofs.YtlglchbkenaekaaTv
end
section
open Go Go.Proofs.YtlglchbkenaekaaVe Go.Proofs.YtlglchbkenaekaaTv Go.Proofs
namespace Go.Proofs.YtlglchbkenaekaaTv
set_option maxRecDepth 8000
set_option maxHeartbeats 2000000
theorem leastF_facts (ll ps : List (List Int)) : ∀ i, 1 ≤ i → i ≤ ps.length → (leastF ll ps i).length = ll.length ∧ Prs (leastF ll ps i) := fun i => by
  induction i with
  | zero => intro h; omega
  | succ i ih =>
    intro h1 h2
    have hr := fun p => renF_facts (ll := ll) (names := p) ll.length (Nat.le_refl _)
    by_cases hi : 1 ≤ i
    · rw [leastF_succ h2 hi]
      split
      · exact hr _
      · exact ih hi (by omega)
    · obtain rfl : i = 0 := by omega
      unfold leastF
      rw [show ((ps.take (0 + 1)).drop 1) = [] from List.drop_eq_nil_of_le (by simp; omega)]
      exact hr _
theorem leastP_facts {g : Int} {ll : List (List Int)} (h : isPants g ll = true) : (leastP g ll).length = ll.length ∧ Prs (leastP g ll) := by
  obtain ⟨n, hn, _, hn6, _⟩ := pants_facts h
  exact leastF_facts _ _ _ ((allP_facts _).2 (by omega)).2 (Nat.le_refl _)
theorem lawLeastPants (g : Int) (ll : List (List Int)) (hl : (ll.length : Int) ≤ 140737488355328) (hr : ∀ r ∈ ll, (r.length : Int) ≤ 140737488355328) : ConS Try.prog 6 [.i g, .ill ll] (.b true) := by
  refine conS_of hmix hTab Try.func6 rfl rfl (by kernel_rfl) (by show 2 ≤ Try.f6.ntmps; decide) rfl ?_
  refine stp ?_; try with_reducible exact True.intro
  refine useT ((szIntSS ll 1048576 (by decide) hl hr).toT) ?_; try with_reducible exact True.intro
  refine Br.mk (fun h1 => ?_) (fun h1 => ?_) <;> simp [-Int.ofNat_toNat] at h1
  · refine stp ?_; try with_reducible exact True.intro
  · obtain ⟨h2, h3⟩ := szSS_facts (Int.le_refl _) h1
    have h4 : ∀ r ∈ ll, (r.length : Int) ≤ 274877906944 := fun r hr => by have := h3 r hr; omega
    have h5 := szSS_total h1
    have hm := markIntSS ll 1 (by omega) (by omega)
    have ht0 := total_nonneg ll
    refine stp ?_; try with_reducible exact True.intro
    cases hP : isPants g ll with
    | true =>
      have hS := LeastPantsS h2 hP
      have hI := LeastPantsI h2 hP
      obtain ⟨n, hn, n2, n6, hg, hlen, hl9, hok⟩ := pants_facts hP
      obtain ⟨hrl, hrw0⟩ := leastP_facts hP
      have hrw : ∀ r ∈ leastP g ll, r.length ≤ 2 := fun r hr => Nat.le_of_eq (hrw0 r hr)
      have htr := total_le hrw
      change ConT _ _ _ _ [.frz (.list (.int .i64)) (leastP g ll)] at hS
      generalize leastP g ll = r at *
      rw [← hrl] at hI hS
      have htr0 := total_nonneg r
      have htr2 : total r ≤ 18 := by omega
      have hr4 : ∀ x ∈ r, (x.length : Int) ≤ 274877906944 := fun x hx => by have := hrw x hx; omega
      have hml := marksR_length 1 r
      refine useT (toIntSS ll h2 h3) ?_; try with_reducible exact True.intro
      refine useT (hS) ?_; try with_reducible exact True.intro
      refine useT (toIntSS ll h2 h3) ?_; try with_reducible exact True.intro
      refine useT (hI) ?_; try with_reducible exact True.intro
      refine useT ((eqIntSS r r (by omega) hr4).toT) ?_; try with_reducible exact True.intro
      refine Br.mk (fun h6 => ?_) (fun h6 => ?_) <;> simp [-Int.ofNat_toNat] at h6
      refine stp ?_; try with_reducible exact True.intro
      refine useT (toIntSS ll h2 h3) ?_; try with_reducible exact True.intro
      refine useT ((eqIntSS ll ll (by omega) h4).toT) ?_; try with_reducible exact True.intro
      refine Br.mk (fun h7 => ?_) (fun h7 => ?_) <;> simp [-Int.ofNat_toNat] at h7
      refine stp ?_; try with_reducible exact True.intro
      refine useI [2] (hm) ?_; try with_reducible exact True.intro
      refine brF (by simp; omega) ?_
      refine stp ?_; try with_reducible exact True.intro
      refine useT ((eqIntSS r r (by omega) hr4).toT) ?_; try with_reducible exact True.intro
      refine Br.mk (fun h8 => ?_) (fun h8 => ?_) <;> simp [-Int.ofNat_toNat] at h8
      refine stp ?_; try with_reducible exact True.intro
      refine useI [3] (markIntSS r 1 (by omega) (by omega)) ?_; try with_reducible exact True.intro
      refine useT ((heldIntSS r 1 (by omega) (by omega)).toT) ?_; try with_reducible exact True.intro
      refine brF (by simp; omega) ?_
      refine stp ?_; try with_reducible exact True.intro
      refine Br.mk (fun h9 => ?_) (fun h9 => ?_) <;> simp [-Int.ofNat_toNat] at h9
      refine stp ?_; try with_reducible exact True.intro
      refine useT (toIntSS ll h2 h3) ?_; try with_reducible exact True.intro
      refine useT (hI) ?_; try with_reducible exact True.intro
      refine useT ((eqIntSS r r (by omega) hr4).toT) ?_; try with_reducible exact True.intro
      refine Br.mk (fun h10 => ?_) (fun h10 => ?_) <;> simp [-Int.ofNat_toNat] at h10
      refine stp ?_; try with_reducible exact True.intro
      refine useT ((heldIntSS r 1 (by omega) (by omega)).toT) ?_; try with_reducible exact True.intro
      refine brF (by simp; omega) ?_
      refine stp ?_; try with_reducible exact True.intro
      refine Br.mk (fun h11 => ?_) (fun h11 => ?_) <;> simp [-Int.ofNat_toNat] at h11
      refine stp ?_; try with_reducible exact True.intro
    | false =>
      refine useT (toIntSS ll h2 h3) ?_; try with_reducible exact True.intro
      refine useT (LeastPantsS0 h2 hP) ?_; try with_reducible exact True.intro
      refine useT (toIntSS ll h2 h3) ?_; try with_reducible exact True.intro
      refine useT (LeastPantsI0 h2 hP) ?_; try with_reducible exact True.intro
      refine useT ((eqIntSS [] [] (by simp) (by simp)).toT) ?_; try with_reducible exact True.intro
      refine useT (toIntSS ll h2 h3) ?_; try with_reducible exact True.intro
      refine useT ((eqIntSS ll ll (by omega) h4).toT) ?_; try with_reducible exact True.intro
      refine Br.mk (fun h7 => ?_) (fun h7 => ?_) <;> simp [-Int.ofNat_toNat] at h7
      refine stp ?_; try with_reducible exact True.intro
      refine useI [2] (hm) ?_; try with_reducible exact True.intro
      refine brF (by simp; omega) ?_
      refine stp ?_; try with_reducible exact True.intro
      refine useT ((eqIntSS [] [] (by simp) (by simp)).toT) ?_; try with_reducible exact True.intro
      refine useT ((markIntSSN 1).toT) ?_; try with_reducible exact True.intro
      refine useT ((heldIntSSN 1).toT) ?_; try with_reducible exact True.intro
      refine useT (toIntSS ll h2 h3) ?_; try with_reducible exact True.intro
      refine useT (LeastPantsI0 h2 hP) ?_; try with_reducible exact True.intro
      refine useT ((eqIntSS [] [] (by simp) (by simp)).toT) ?_; try with_reducible exact True.intro
      refine useT ((heldIntSSN 1).toT) ?_; try with_reducible exact True.intro
end Go.Proofs.YtlglchbkenaekaaTv
end
section
open Go Go.Proofs.YtlglchbkenaekaaVe Go.Proofs.YtlglchbkenaekaaTv Go.Proofs
namespace Go.Proofs.YtlglchbkenaekaaTv
set_option maxRecDepth 8000
set_option maxHeartbeats 2000000
/-- How often a number stands in the rows. -/
def occ (v : Int) : List (List Int) → Nat
  | [] => 0
  | r :: l => (if v = rd r 0 then 1 else 0) + (if v = rd r 1 then 1 else 0) + occ v l
theorem occ_append (v : Int) : ∀ (l m : List (List Int)), occ v (l ++ m) = occ v l + occ v m
  | [], m => by simp [occ]
  | r :: l, m => by simp only [List.cons_append, occ, occ_append v l m]; omega
theorem occ_perm {v : Int} {l m : List (List Int)} (h : l.Perm m) : occ v l = occ v m := by
  induction h with
  | nil => rfl
  | cons x _ ih => simp only [occ, ih]
  | swap x y l => simp only [occ]; omega
  | trans _ _ h1 h2 => exact h1.trans h2
theorem occ_cnt {n : Nat} {ll : List (List Int)} (v : Int) (hv : 0 ≤ v ∧ v < n) (hok : ∀ j : Nat, j < ll.length → rowOk n (rdR ll j) = true) : ∀ k, k ≤ ll.length → rd (cnt n ll k) v = occ v (ll.take k)
  | 0, _ => by
    simp only [cnt, List.take_zero, List.foldl_nil, rd, List.getD_eq_getElem?_getD, List.getElem?_replicate, occ]
    split <;> simp
  | k + 1, h => by
    have ih := occ_cnt v hv hok k (by omega)
    obtain ⟨r1, r2, r3, r4⟩ := rowOk_facts (hok k (by omega))
    have hl := cnt_length n ll k
    rw [cnt_succ (by omega), rd_bumpE hl ⟨r2, r3, r4⟩ hv.1, take_succR (by omega), occ_append, ih]
    simp only [occ]
    split <;> split <;> simp <;> omega
/-- A pants graph, told without lists of classes: what is alike at both ends of each edge is alike everywhere. -/
structure PG (g : Int) (n : Nat) (ll : List (List Int)) : Prop where
  g2 : 2 ≤ g ∧ g ≤ 4
  hn : 2 * g - 2 = n
  len : (ll.length : Int) = 3 * g - 3
  row : ∀ r ∈ ll, rowOk n r = true
  three : ∀ v : Int, 0 ≤ v → v < n → occ v ll = 3
  conn : ∀ h : Int → Int, (∀ r ∈ ll, h (rd r 0) = h (rd r 1)) → ∀ x y, InR n x → InR n y → h x = h y
theorem mem_rdR {ll : List (List Int)} {r : List Int} (h : r ∈ ll) : ∃ j : Nat, j < ll.length ∧ rdR ll j = r := by
  obtain ⟨j, hj⟩ := List.mem_iff_getElem?.1 h
  have h1 := (List.getElem?_eq_some_iff.1 hj).1
  exact ⟨j, h1, by simp [rdR, hj]⟩
theorem rdR_mem {ll : List (List Int)} {j : Nat} (h : j < ll.length) : rdR ll j ∈ ll := by simp [rdR, h]
theorem jl_const {ll : List (List Int)} {h : Int → Int} (hh : ∀ r ∈ ll, h (rd r 0) = h (rd r 1)) : ∀ k, k ≤ ll.length → ∀ x y, jl (-1) ll k x = jl (-1) ll k y → h x = h y
  | 0, _, x, y, e => by simp [jl] at e; rw [e]
  | k + 1, hk, x, y, e => by
    have ih := jl_const hh k (by omega)
    have he := hh _ (rdR_mem (show k < ll.length by omega))
    rw [jl, if_neg (by omega)] at e
    rcases joinF_ker.1 e with e | ⟨e1, e2⟩ | ⟨e1, e2⟩
    · exact ih x y e
    · rw [ih _ _ e1, he, ← ih _ _ e2]
    · rw [ih _ _ e1, ← he, ← ih _ _ e2]
theorem jl_edge {ll : List (List Int)} : ∀ k, k ≤ ll.length → ∀ j : Nat, j < k → jl (-1) ll k (rd (rdR ll j) 0) = jl (-1) ll k (rd (rdR ll j) 1)
  | 0, _, j, h => by omega
  | k + 1, hk, j, hj => by
    rw [jl, if_neg (by omega)]
    rw [joinF_ker]
    by_cases e : j = k
    · subst e
      exact .inr (.inl ⟨rfl, rfl⟩)
    · exact .inl (jl_edge k (by omega) j (by omega))
theorem pants_iff {g : Int} {n : Nat} (hn : 2 * g - 2 = n) {ll : List (List Int)} : isPants g ll = true ↔ PG g n ll := by
  constructor
  · intro h
    obtain ⟨n', hn', n2, n6, hg, hlen, hl9, hok⟩ := pants_facts h
    obtain rfl : n' = n := by omega
    have hE := ends_of hok
    refine ⟨hg, hn, hlen, fun r hr => ?_, fun v h0 h1 => ?_, fun f hf x y hx hy => ?_⟩
    · obtain ⟨j, hj, rfl⟩ := mem_rdR hr
      exact hok j hj
    · have h3 := pants_count h hn v ⟨h0, h1⟩
      rw [occ_cnt v ⟨h0, h1⟩ hok _ (Nat.le_refl _), List.take_length] at h3
      omega
    · refine jl_const hf ll.length (Nat.le_refl _) x y ?_
      obtain ⟨up, hF⟩ := fo_jl (skip := -1) hE ll.length (Nat.le_refl _)
      simp only [isPants, Bool.and_eq_true, decide_eq_true_eq] at h
      have h1 := h.2.2.2.2
      rw [show (2 * g - 2).toNat = n' by omega] at h1
      have hm : ∀ x, InR n' x → jl (-1) ll ll.length x ∈ rootsOf n' (jl (-1) ll ll.length) := fun x hx => by
        simp only [rootsOf, List.mem_filter, beq_iff_eq]
        exact ⟨mem_ints.2 (hF.rng x hx), hF.idem hx⟩
      have a := hm x hx
      have b := hm y hy
      obtain ⟨c, hc⟩ := List.length_eq_one_iff.1 h1
      rw [hc] at a b
      simp at a b
      rw [a, b]
  · intro h
    have hok : ∀ j : Nat, j < ll.length → rowOk n (rdR ll j) = true := fun j hj => h.row _ (rdR_mem hj)
    have hE := ends_of hok
    have hg := h.g2
    obtain ⟨up, hF⟩ := fo_jl (skip := -1) hE ll.length (Nat.le_refl _)
    simp only [isPants, Bool.and_eq_true, decide_eq_true_eq, List.all_eq_true]
    rw [show (2 * g - 2).toNat = n by omega, hn]
    refine ⟨hg, h.len, h.row, fun c hc => ?_, ?_⟩
    · obtain ⟨v, hv⟩ := List.mem_iff_getElem?.1 hc
      have hv1 : v < n := by
        have := (List.getElem?_eq_some_iff.1 hv).1
        rwa [cnt_length] at this
      have h1 := occ_cnt (v : Int) ⟨by omega, by omega⟩ hok _ (Nat.le_refl _)
      rw [List.take_length, h.three v (by omega) (by omega)] at h1
      have : rd (cnt n ll ll.length) v = c := by simp [rd, hv]
      omega
    · have hconst := h.conn (jl (-1) ll ll.length) fun r hr => by
        obtain ⟨j, hj, rfl⟩ := mem_rdR hr
        exact jl_edge ll.length (Nat.le_refl _) j hj
      have h0 : InR n 0 := ⟨by omega, by omega⟩
      have : (rootsOf n (jl (-1) ll ll.length)).length ≤ [jl (-1) ll ll.length 0].length := len_le_of_sub _ _ ((nodup_ints n).filter _) fun x hx => by
        simp only [rootsOf, List.mem_filter, beq_iff_eq, mem_ints] at hx
        rw [List.mem_singleton, ← hconst x 0 hx.1 h0, hx.2]
      have := roots_pos hF (by omega)
      simp only [List.length_cons, List.length_nil] at *
      omega
/-- A pants graph with other names. -/
theorem insP_perm (out : List (List Int)) (own : List Int) : (insP out own).Perm (own :: out) := by
  unfold insP
  exact List.perm_middle.trans (by rw [List.take_append_drop])
theorem renF_perm (ll : List (List Int)) (names : List Int) : (renF ll names ll.length).Perm (ll.map (pairN names)) := by
  have : ∀ (l acc : List (List Int)), (l.foldl (fun out e => insP out (pairN names e)) acc).Perm (acc ++ l.map (pairN names)) := fun l => by
    induction l with
    | nil => intro acc; simp
    | cons e l ih =>
      intro acc
      rw [List.foldl_cons, List.map_cons]
      refine (ih _).trans ?_
      exact ((insP_perm acc _).append_right _).trans List.perm_middle.symm
  unfold renF
  rw [List.take_length]
  simpa using this ll []
theorem ren_pants {g : Int} {n : Nat} {ll : List (List Int)} (h : PG g n ll) {p : List Int} (hp : p.Perm (idP n)) : PG g n (renF ll p ll.length) := by
  have hperm := renF_perm ll p
  have hlen : p.length = n := by rw [hp.length_eq, idP_length]
  have hmem : ∀ x : Int, x ∈ p ↔ 0 ≤ x ∧ x < n := fun x => by
    rw [hp.mem_iff]
    simp only [idP, List.mem_map, List.mem_range]
    constructor
    · rintro ⟨j, hj, rfl⟩; omega
    · rintro ⟨h0, h1⟩; exact ⟨x.toNat, by omega, by omega⟩
  have hnd : p.Nodup := by
    rw [hp.nodup_iff]
    unfold idP
    refine List.Pairwise.map _ (fun (a b : Nat) h => ?_) List.nodup_range
    omega
  have hrng : ∀ x, InR n x → InR n (rd p x) := fun x hx => (hmem _).1 (rd_memP hx.1 (by rw [hlen]; exact hx.2))
  have hinj : ∀ x y, InR n x → InR n y → rd p x = rd p y → x = y := fun x y hx hy e => by
    have hx1 : x.toNat < p.length := by have := hx.1; have := hx.2; omega
    have hy1 : y.toNat < p.length := by have := hy.1; have := hy.2; omega
    have e1 : p[x.toNat] = p[y.toNat] := by simpa [rd, hx1, hy1] using e
    have := (List.getElem_inj hnd).1 e1
    have := hx.1; have := hy.1
    omega
  have hsur : ∀ v, InR n v → ∃ x, InR n x ∧ rd p x = v := fun v hv => by
    obtain ⟨j, hj⟩ := List.mem_iff_getElem?.1 ((hmem v).2 hv)
    have h1 := (List.getElem?_eq_some_iff.1 hj).1
    exact ⟨j, ⟨by omega, by omega⟩, by simp [rd, hj]⟩
  have hends : ∀ r ∈ ll, InR n (rd r 0) ∧ InR n (rd r 1) := fun r hr => by
    obtain ⟨_, r2, r3, r4⟩ := rowOk_facts (h.row r hr)
    exact ⟨⟨r2, by omega⟩, ⟨by omega, r4⟩⟩
  refine ⟨h.g2, h.hn, ?_, fun r hr => ?_, fun v h0 h1 => ?_, fun f hf x y hx hy => ?_⟩
  · rw [(renF_facts (ll := ll) (names := p) ll.length (Nat.le_refl _)).1]; exact h.len
  · obtain ⟨e, he, rfl⟩ := List.mem_map.1 (hperm.mem_iff.1 hr)
    obtain ⟨e1, e2⟩ := hends e he
    have b1 := hrng _ e1
    have b2 := hrng _ e2
    have c1 := b1.1; have c2 := b1.2; have c3 := b2.1; have c4 := b2.2
    have m0 : rd (pairN p e) 0 = min (rd p (rd e 0)) (rd p (rd e 1)) := rfl
    have m1 : rd (pairN p e) 1 = max (rd p (rd e 0)) (rd p (rd e 1)) := rfl
    have ml : (pairN p e).length = 2 := rfl
    simp only [rowOk, Bool.and_eq_true, decide_eq_true_eq, m0, m1, ml, true_and]
    omega
  · obtain ⟨x, hx, rfl⟩ := hsur v ⟨h0, h1⟩
    rw [occ_perm hperm, ← h.three x hx.1 hx.2]
    have : ∀ l : List (List Int), (∀ r ∈ l, InR n (rd r 0) ∧ InR n (rd r 1)) → occ (rd p x) (l.map (pairN p)) = occ x l := fun l => by
      induction l with
      | nil => intro _; rfl
      | cons r l ih =>
        intro hl
        obtain ⟨e1, e2⟩ := hl r (by simp)
        rw [List.map_cons, occ, occ, ih fun r hr => hl r (by simp [hr])]
        have m0 : rd (pairN p r) 0 = min (rd p (rd r 0)) (rd p (rd r 1)) := rfl
        have m1 : rd (pairN p r) 1 = max (rd p (rd r 0)) (rd p (rd r 1)) := rfl
        have i0 : rd p x = rd p (rd r 0) ↔ x = rd r 0 := ⟨hinj _ _ hx e1, fun e => by rw [e]⟩
        have i1 : rd p x = rd p (rd r 1) ↔ x = rd r 1 := ⟨hinj _ _ hx e2, fun e => by rw [e]⟩
        rw [m0, m1]
        simp only [← i0, ← i1]
        by_cases c : rd p (rd r 0) ≤ rd p (rd r 1)
        · rw [Int.min_eq_left c, Int.max_eq_right c]
        · rw [Int.min_eq_right (by omega), Int.max_eq_left (by omega)]; omega
    exact this ll hends
  · obtain ⟨x', hx', rfl⟩ := hsur x hx
    obtain ⟨y', hy', rfl⟩ := hsur y hy
    refine h.conn (fun z => f (rd p z)) (fun r hr => ?_) x' y' hx' hy'
    have := hf _ (hperm.mem_iff.2 (List.mem_map.2 ⟨r, hr, rfl⟩))
    have m0 : rd (pairN p r) 0 = min (rd p (rd r 0)) (rd p (rd r 1)) := rfl
    have m1 : rd (pairN p r) 1 = max (rd p (rd r 0)) (rd p (rd r 1)) := rfl
    rw [m0, m1] at this
    by_cases c : rd p (rd r 0) ≤ rd p (rd r 1)
    · rw [Int.min_eq_left c, Int.max_eq_right c] at this; exact this
    · rw [Int.min_eq_right (by omega), Int.max_eq_left (by omega)] at this; exact this.symm
theorem leastF_mem (ll ps : List (List Int)) : ∀ i, 1 ≤ i → i ≤ ps.length → ∃ p ∈ ps, leastF ll ps i = renF ll p ll.length := fun i => by
  induction i with
  | zero => intro h; omega
  | succ i ih =>
    intro h1 h2
    by_cases hi : 1 ≤ i
    · rw [leastF_succ h2 hi]
      split
      · exact ⟨_, rdR_mem h2, rfl⟩
      · exact ih hi (by omega)
    · obtain rfl : i = 0 := by omega
      unfold leastF
      rw [show ((ps.take (0 + 1)).drop 1) = [] from List.drop_eq_nil_of_le (by simp; omega)]
      exact ⟨_, rdR_mem h2, rfl⟩
theorem least_pants {g : Int} {ll : List (List Int)} (h : isPants g ll = true) : isPants g (leastP g ll) = true := by
  obtain ⟨n, hn, _, hn6, _⟩ := pants_facts h
  have hp := (pants_iff hn).1 h
  obtain ⟨p, hm, e⟩ := leastF_mem ll (allP n) _ ((allP_facts n).2 hn6).2 (Nat.le_refl _)
  refine (pants_iff hn).2 ?_
  rw [leastP, show (2 * g - 2).toNat = n by omega, e]
  exact ren_pants hp (allP_perm n p hm)
end Go.Proofs.YtlglchbkenaekaaTv
end
section
open Go Go.Proofs.YtlglchbkenaekaaVe Go.Proofs.YtlglchbkenaekaaTv Go.Proofs
namespace Go.Proofs.YtlglchbkenaekaaTv
set_option maxRecDepth 8000
set_option maxHeartbeats 2000000
theorem endsF_at {v but : Int} : ∀ (e : Nat) (l : List (List Int)), ∀ p ∈ endsF v but e l, (p.1 : Int) ≠ but ∧ rd (l.getD (p.1 - e) []) p.2 = v
  | e, [], p, h => by simp [endsF] at h
  | e, r :: l, p, h => by
    have hin := endsF_in e (r :: l) p h
    simp only [endsF, List.mem_append] at h
    rcases h with h | h
    · unfold endE at h
      split at h
      · simp at h
      · rename_i hne
        rw [List.mem_append] at h
        rcases h with h | h
        · split at h
          · rename_i hv
            simp at h; subst h
            exact ⟨hne, by simpa using hv⟩
          · simp at h
        · split at h
          · rename_i hv
            simp at h; subst h
            exact ⟨hne, by simpa using hv⟩
          · simp at h
    · obtain ⟨h1, h2⟩ := endsF_at (e + 1) l p h
      have h3 := endsF_in (e + 1) l p h
      refine ⟨h1, ?_⟩
      rw [show p.1 - e = (p.1 - (e + 1)) + 1 by omega]
      simpa using h2
theorem pair_set {r : List Int} (h : r.length = 2) {i : Nat} (hi : i < 2) (x : Int) : (r.set i x).length = 2 ∧ rd (r.set i x) i = x ∧ rd (r.set i x) (1 - i : Nat) = rd r (1 - i : Nat) := by
  match r, h with
  | [a, b], _ =>
    match i, hi with
    | 0, _ => exact ⟨rfl, rfl, rfl⟩
    | 1, _ => exact ⟨rfl, rfl, rfl⟩
/-- What stands in the rows, when one number of a row is changed. -/
theorem occ_set {v x : Int} : ∀ {l : List (List Int)} {i : Nat} {r : List Int}, l[i]? = some r → ∀ r' : List Int, occ v (l.set i r') + ((if v = rd r 0 then 1 else 0) + (if v = rd r 1 then 1 else 0)) = occ v l + ((if v = rd r' 0 then 1 else 0) + (if v = rd r' 1 then 1 else 0))
  | [], i, r, h, _ => by simp at h
  | q :: l, 0, r, h, r' => by
    simp at h; subst h
    simp only [List.set_cons_zero, occ]; omega
  | q :: l, i + 1, r, h, r' => by
    have := occ_set (v := v) (x := x) (l := l) (i := i) (r := r) (by simpa using h) r'
    simp only [List.set_cons_succ, occ]; omega
theorem occ_setE {v x : Int} {l : List (List Int)} {p : Nat × Nat} (h1 : p.1 < l.length) (h2 : p.2 < 2) (hr : (l.getD p.1 []).length = 2) : occ v (setE l p x) + (if v = rd (l.getD p.1 []) p.2 then 1 else 0) = occ v l + (if v = x then 1 else 0) := by
  have hg : l[p.1]? = some (l.getD p.1 []) := by simp [h1]
  have := occ_set (v := v) (x := x) hg ((l.getD p.1 []).set p.2 x)
  unfold setE
  generalize l.getD p.1 [] = r at *
  obtain ⟨a1, a2, a3⟩ := pair_set hr h2 x
  obtain ⟨i, j⟩ := p
  simp only at *
  match j, h2 with
  | 0, _ =>
    have b2 : rd (r.set 0 x) 0 = x := a2
    have b3 : rd (r.set 0 x) 1 = rd r 1 := a3
    rw [b2, b3] at this
    have e : rd r ((0 : Nat) : Int) = rd r 0 := rfl
    rw [e]; omega
  | 1, _ =>
    have b2 : rd (r.set 1 x) 1 = x := a2
    have b3 : rd (r.set 1 x) 0 = rd r 0 := a3
    rw [b2, b3] at this
    have e : rd r ((1 : Nat) : Int) = rd r 1 := rfl
    rw [e]; omega
theorem occ_norm (v : Int) : ∀ l : List (List Int), occ v (l.map normE) = occ v l
  | [] => rfl
  | r :: l => by
    have m0 : rd (normE r) 0 = min (rd r 0) (rd r 1) := rfl
    have m1 : rd (normE r) 1 = max (rd r 0) (rd r 1) := rfl
    rw [List.map_cons, occ, occ, occ_norm v l, m0, m1]
    by_cases c : rd r 0 ≤ rd r 1
    · rw [Int.min_eq_left c, Int.max_eq_right c]
    · rw [Int.min_eq_right (by omega), Int.max_eq_left (by omega)]; omega
/-- The changed pants are pants. -/
theorem swap_pants {g : Int} {ll : List (List Int)} (h : isPants g ll = true) {e way : Nat} (he : e < ll.length) (hne : rd (rdR ll e) 0 ≠ rd (rdR ll e) 1) (hw : way < 2) : isPants g (swp ll e way) = true := by
  obtain ⟨n, hn, n2, n6, hg, hlen, hl9, hok⟩ := pants_facts h
  have hF := swp_facts h he hne hw
  have hP := (pants_iff hn).1 h
  obtain ⟨_, hrow, lu, lv, a1, a2, b1, b2⟩ := hF
  have hA := endsF_at (v := rd (rdR ll e) 0) (but := (e : Int)) 0 (ll.take ll.length) _ (getD_in (d := (0, 0)) (i := 1) (by unfold ends at lu; omega))
  have hB := endsF_at (v := rd (rdR ll e) 1) (but := (e : Int)) 0 (ll.take ll.length) _ (getD_in (d := (0, 0)) (i := way) (by unfold ends at lv; omega))
  rw [List.take_length] at hA hB
  replace hA : ((endA ll e).1 : Int) ≠ e ∧ rd (ll.getD (endA ll e).1 []) (endA ll e).2 = rd (rdR ll e) 0 := by simpa [endA, ends] using hA
  replace hB : ((endB ll e way).1 : Int) ≠ e ∧ rd (ll.getD (endB ll e way).1 []) (endB ll e way).2 = rd (rdR ll e) 1 := by simpa [endB, ends] using hB
  obtain ⟨ok1, ok2, ok3, ok4⟩ := rowOk_facts (hok e he)
  refine (pants_iff hn).2 ?_
  unfold swp swp0
  have hnu : 0 ≤ rd (rdR ll e) 0 ∧ rd (rdR ll e) 0 < n := ⟨ok2, by omega⟩
  have hnv : 0 ≤ rd (rdR ll e) 1 ∧ rd (rdR ll e) 1 < n := ⟨by omega, ok4⟩
  have hue : rdR ll e = ll.getD e [] := rfl
  generalize hA' : endA ll e = A at *
  generalize hB' : endB ll e way = B at *
  generalize hu : rd (rdR ll e) 0 = u at *
  generalize hv : rd (rdR ll e) 1 = v at *
  have r1 := rowLen_setE (x := v) hrow a1
  have l1 := setE_length ll A v
  have hgA : (ll.getD A.1 []).length = 2 := hrow _ (getD_in a1)
  have hgB : (ll.getD B.1 []).length = 2 := hrow _ (getD_in b1)
  have hgB1 : ((setE ll A v).getD B.1 []).length = 2 := r1 _ (getD_in (by omega))
  -- the second end is not the first one
  have hBv : rd ((setE ll A v).getD B.1 []) B.2 = v := by
    by_cases c : B.1 = A.1
    · have e1 : (setE ll A v).getD B.1 [] = (ll.getD A.1 []).set A.2 v := by
        rw [c]; simp [setE, a1]
      rw [e1]
      by_cases c2 : B.2 = A.2
      · rw [c2]; exact (pair_set hgA a2 v).2.1
      · have h3 := (pair_set hgA a2 v).2.2
        have e2 : B.2 = 1 - A.2 := by omega
        rw [e2, h3, ← e2, ← c]; exact hB.2
    · have e1 : (setE ll A v).getD B.1 [] = ll.getD B.1 [] := by
        simp [setE, List.getElem?_set_ne (fun d => c d.symm)]
      rw [e1]; exact hB.2
  have hocc : ∀ x, occ x ((setE (setE ll A v) B u).map normE) = occ x ll := fun x => by
    have h1 := occ_setE (v := x) (x := v) a1 a2 hgA
    have h2 := occ_setE (v := x) (x := u) (l := setE ll A v) (p := B) (by omega) b2 hgB1
    rw [hA.2] at h1
    rw [hBv] at h2
    rw [occ_norm]
    omega
  -- a row of the new list, and the old one
  have key : ∀ j, j < ll.length → ∃ r', (setE (setE ll A v) B u)[j]? = some r' ∧ r'.length = 2 ∧ (j = e → r' = rdR ll e) ∧ ∀ k, k < 2 → (rd r' (k : Nat) = rd (rdR ll j) (k : Nat)) ∨ (rd (rdR ll j) (k : Nat) = u ∧ rd r' (k : Nat) = v) ∨ (rd (rdR ll j) (k : Nat) = v ∧ rd r' (k : Nat) = u) := fun j hj => by
    have s1 : ∃ r1, (setE ll A v)[j]? = some r1 ∧ r1.length = 2 ∧ (j = e → r1 = rdR ll e) ∧ ∀ k, k < 2 → (rd r1 (k : Nat) = rd (rdR ll j) (k : Nat) ∨ ((j, k) = A ∧ rd r1 (k : Nat) = v)) := by
      by_cases c : j = A.1
      · refine ⟨(ll.getD A.1 []).set A.2 v, by rw [c]; simp [setE, a1], (pair_set hgA a2 v).1, fun c2 => absurd (by rw [← c, c2]) hA.1, fun k hk => ?_⟩
        by_cases c2 : k = A.2
        · exact .inr ⟨by rw [c, c2], by rw [c2]; exact (pair_set hgA a2 v).2.1⟩
        · have e2 : k = 1 - A.2 := by omega
          refine .inl ?_
          rw [e2, (pair_set hgA a2 v).2.2, c]; rfl
      · refine ⟨rdR ll j, ?_, hrow _ (rdR_mem hj), fun c2 => by rw [c2], fun k _ => .inl rfl⟩
        show (ll.set A.1 _)[j]? = _
        rw [List.getElem?_set_ne (fun d => c d.symm)]
        simp [rdR, hj]
    obtain ⟨q, q1, q2, q3, q4⟩ := s1
    by_cases c : j = B.1
    · have hq : (setE ll A v).getD B.1 [] = q := by rw [← c, List.getD_eq_getElem?_getD, q1]; rfl
      rw [hq] at hgB1 hBv
      refine ⟨q.set B.2 u, by
        have : setE (setE ll A v) B u = (setE ll A v).set B.1 (q.set B.2 u) := by rw [← hq]; rfl
        rw [this, c, List.getElem?_set_self (by omega)], (pair_set q2 b2 u).1, fun c2 => absurd (by rw [← c, c2]) hB.1, fun k hk => ?_⟩
      by_cases c2 : k = B.2
      · have h5 : rd (rdR ll j) (k : Nat) = v := by rw [c, c2]; exact hB.2
        exact .inr (.inr ⟨h5, by rw [c2]; exact (pair_set q2 b2 u).2.1⟩)
      · have e2 : k = 1 - B.2 := by omega
        have e3 : rd (q.set B.2 u) (k : Nat) = rd q (k : Nat) := by rw [e2]; exact (pair_set q2 b2 u).2.2
        rw [e3]
        rcases q4 k hk with h6 | ⟨h6, h7⟩
        · exact .inl h6
        · refine .inr (.inl ⟨?_, h7⟩)
          rw [← hA.2, ← h6]; rfl
    · refine ⟨q, by
        have : (setE (setE ll A v) B u)[j]? = (setE ll A v)[j]? := by
          show ((setE ll A v).set B.1 _)[j]? = _
          rw [List.getElem?_set_ne (fun d => c d.symm)]
        rw [this]; exact q1, q2, q3, fun k hk => ?_⟩
      rcases q4 k hk with h6 | ⟨h6, h7⟩
      · exact .inl h6
      · refine .inr (.inl ⟨?_, h7⟩)
        rw [← hA.2, ← h6]; rfl
  have hl2 : (setE (setE ll A v) B u).length = ll.length := by rw [setE_length, l1]
  have hends : ∀ j, j < ll.length → ∀ k, k < 2 → 0 ≤ rd (rdR ll j) (k : Nat) ∧ rd (rdR ll j) (k : Nat) < n := fun j hj k hk => by
    obtain ⟨_, p2, p3, p4⟩ := rowOk_facts (hok j hj)
    match k, hk with
    | 0, _ => exact ⟨p2, Int.lt_of_le_of_lt p3 p4⟩
    | 1, _ => exact ⟨Int.le_trans p2 p3, p4⟩
  refine ⟨hP.g2, hn, by rw [List.length_map, hl2]; exact hlen, fun r hr => ?_, fun x h0 h1 => by rw [hocc]; exact hP.three x h0 h1, fun f hf x y hx hy => ?_⟩
  · obtain ⟨q, hq, rfl⟩ := List.mem_map.1 hr
    obtain ⟨j, hj⟩ := List.mem_iff_getElem?.1 hq
    have hjl : j < ll.length := by rw [← hl2]; exact (List.getElem?_eq_some_iff.1 hj).1
    obtain ⟨r', k1, k2, _, k3⟩ := key j hjl
    obtain rfl : r' = q := by rw [k1] at hj; injection hj
    have hin : ∀ k, k < 2 → 0 ≤ rd r' (k : Nat) ∧ rd r' (k : Nat) < n := fun k hk => by
      have := hends j hjl k hk
      rcases k3 k hk with h6 | ⟨_, h6⟩ | ⟨_, h6⟩ <;> rw [h6] <;> first | exact this | exact hnu | exact hnv
    have i0 : 0 ≤ rd r' 0 ∧ rd r' 0 < n := hin 0 (by omega)
    have i1 : 0 ≤ rd r' 1 ∧ rd r' 1 < n := hin 1 (by omega)
    have m0 : rd (normE r') 0 = min (rd r' 0) (rd r' 1) := rfl
    have m1 : rd (normE r') 1 = max (rd r' 0) (rd r' 1) := rfl
    have ml : (normE r').length = 2 := rfl
    simp only [rowOk, Bool.and_eq_true, decide_eq_true_eq, m0, m1, ml, true_and]
    omega
  · have hedge : ∀ j r', (setE (setE ll A v) B u)[j]? = some r' → f (rd r' 0) = f (rd r' 1) := fun j r' hj => by
      have := hf (normE r') (List.mem_map.2 ⟨r', List.mem_of_getElem? hj, rfl⟩)
      have m0 : rd (normE r') 0 = min (rd r' 0) (rd r' 1) := rfl
      have m1 : rd (normE r') 1 = max (rd r' 0) (rd r' 1) := rfl
      rw [m0, m1] at this
      by_cases c : rd r' 0 ≤ rd r' 1
      · rw [Int.min_eq_left c, Int.max_eq_right c] at this; exact this
      · rw [Int.min_eq_right (by omega), Int.max_eq_left (by omega)] at this; exact this.symm
    have huv : f u = f v := by
      obtain ⟨r', k1, _, k3, _⟩ := key e he
      have := hedge e r' k1
      rw [k3 rfl, hu, hv] at this; exact this
    refine hP.conn f (fun r hr => ?_) x y hx hy
    obtain ⟨j, hj, rfl⟩ := mem_rdR hr
    obtain ⟨r', k1, k2, _, k3⟩ := key j hj
    have h7 := hedge j r' k1
    have e0 : f (rd r' 0) = f (rd (rdR ll j) 0) := by
      rcases k3 0 (by omega) with h6 | ⟨h5, h6⟩ | ⟨h5, h6⟩
      · exact congrArg f h6
      · exact (congrArg f h6).trans (huv.symm.trans (congrArg f h5).symm)
      · exact (congrArg f h6).trans (huv.trans (congrArg f h5).symm)
    have e1 : f (rd r' 1) = f (rd (rdR ll j) 1) := by
      rcases k3 1 (by omega) with h6 | ⟨h5, h6⟩ | ⟨h5, h6⟩
      · exact congrArg f h6
      · exact (congrArg f h6).trans (huv.symm.trans (congrArg f h5).symm)
      · exact (congrArg f h6).trans (huv.trans (congrArg f h5).symm)
    rw [← e0, ← e1]; exact h7
end Go.Proofs.YtlglchbkenaekaaTv
end
section
open Go Go.Proofs.YtlglchbkenaekaaVe Go.Proofs.YtlglchbkenaekaaTv Go.Proofs
namespace Go.Proofs.YtlglchbkenaekaaTv
set_option maxRecDepth 8000
set_option maxHeartbeats 2000000
abbrev Tbl := List (List Int)
def rdS (S : List Tbl) (i : Int) : Tbl := S.getD i.toNat []
structure Tb (L : Nat) (s : Tbl) : Prop where
  len : s.length = L
  prs : Prs s
  small : Small s
theorem Tb.eq_iff {L : Nat} {a b : Tbl} (ha : Tb L a) (hb : Tb L b) : cmpF a b = 0 ↔ a = b := ⟨cmpF_eq (by rw [ha.len, hb.len]) ha.prs hb.prs, fun e => by rw [e, cmpF_self]⟩
def posT : List Tbl → Tbl → Nat
  | [], _ => 0
  | s :: S, x => if cmpF s x < 0 then posT S x + 1 else 0
theorem posT_le : ∀ (S : List Tbl) (x : Tbl), posT S x ≤ S.length
  | [], _ => Nat.le_refl _
  | s :: S, x => by
    unfold posT
    have := posT_le S x
    split
    · simp only [List.length_cons]; omega
    · exact Nat.zero_le _
/-- Is it there already? -/
def hasT (S : List Tbl) (x : Tbl) : Bool := decide (posT S x < S.length) && decide (cmpF (rdS S (posT S x)) x = 0)
def addT (S : List Tbl) (x : Tbl) : List Tbl := if hasT S x = true then S else S.take (posT S x) ++ x :: S.drop (posT S x)
theorem drop_consS {S : List Tbl} {i : Nat} (h : i < S.length) : S.drop i = rdS S i :: S.drop (i + 1) := by
  rw [List.drop_eq_getElem_cons h]
  simp [rdS, h]
theorem rdS_mem {S : List Tbl} {i : Nat} (h : i < S.length) : rdS S i ∈ S := by simp [rdS, h]
theorem addT_len (S : List Tbl) (x : Tbl) : (addT S x).length = if hasT S x = true then S.length else S.length + 1 := by
  have := posT_le S x
  unfold addT
  split
  · rfl
  · simp; omega
theorem addT_mem {S : List Tbl} {x y : Tbl} (h : y ∈ addT S x) : y ∈ S ∨ y = x := by
  unfold addT at h
  split at h
  · exact .inl h
  · rcases List.mem_append.1 h with h | h
    · exact .inl (List.mem_of_mem_take h)
    · rcases List.mem_cons.1 h with h | h
      · exact .inr h
      · exact .inl (List.mem_of_mem_drop h)
theorem l2Same (l m : List Int) (hl : (l.length : Int) ≤ 274877906944) : ConS Try.prog 104 [.il l, .il m] (.b (decide (l = m))) := by
  refine conS_of hmix hTab Try.func104 rfl rfl (by kernel_rfl) (by show 2 ≤ Try.f104.ntmps; decide) rfl ?_
  refine stp ?_; try with_reducible exact True.intro
  refine Br.mk (fun h => ?_) (fun h => ?_) <;> simp [-Int.ofNat_toNat] at h
  · refine stp ?_; try with_reducible exact True.intro
    have : l ≠ m := fun e => h (by rw [e])
    simp [this]
  · refine stp ?_; try with_reducible exact True.intro
    refine ⟨Nat, fun i => i ≤ l.length ∧ ∀ k, k < i → rd l k = rd m k, fun i => l.length - i, fun i => [(0, .il l), (1, .il m), (5, .i i)], fun i => [], ⟨0, (fitK [] []), by simp⟩, fun i ⟨hi, hk⟩ => ?_⟩
    dsimp only at hi hk ⊢
    refine stp ?_; try with_reducible exact True.intro
    refine Br.mk (fun h1 => ?_) (fun h1 => ?_) <;> simp [-Int.ofNat_toNat] at h1
    · refine stp ?_; try with_reducible exact True.intro
      refine Br.mk (fun h2 => ?_) (fun h2 => ?_) <;> simp [-Int.ofNat_toNat] at h2
      · refine stp ?_; try with_reducible exact True.intro
        have : l ≠ m := fun e => h2 (by rw [e])
        simp [this]
      · refine stp ?_; try with_reducible exact True.intro
        refine ⟨i + 1, (fitK [] []), ⟨h1, fun k hk1 => ?_⟩, by first | ((try dsimp only); omega) | (simp; omega)⟩
        by_cases e : k = i
        · rw [e]; exact h2
        · exact hk k (by omega)
    · refine stp ?_; try with_reducible exact True.intro
      have : l = m := by
        refine List.ext_getElem (by omega) fun k h2 h3 => ?_
        have := hk k (by omega)
        simpa [rd, h2, h3] using this
      simp [this]
theorem l11Same (l m : Tbl) (hl : (l.length : Int) ≤ 274877906944) (hr : ∀ r ∈ l, (r.length : Int) ≤ 274877906944) : ConS Try.prog 78 [.ill l, .ill m] (.b (decide (l = m))) := by
  refine conS_of hmix hTab Try.func78 rfl rfl (by kernel_rfl) (by show 2 ≤ Try.f78.ntmps; decide) rfl ?_
  refine stp ?_; try with_reducible exact True.intro
  refine Br.mk (fun h => ?_) (fun h => ?_) <;> simp [-Int.ofNat_toNat] at h
  · refine stp ?_; try with_reducible exact True.intro
    have : l ≠ m := fun e => h (by rw [e])
    simp [this]
  · refine stp ?_; try with_reducible exact True.intro
    refine ⟨Nat, fun i => i ≤ l.length ∧ ∀ k, k < i → rdR l k = rdR m k, fun i => l.length - i, fun i => [(0, .ill l), (1, .ill m), (5, .i i)], fun i => [], ⟨0, (fitK [] []), by simp⟩, fun i ⟨hi, hk⟩ => ?_⟩
    dsimp only at hi hk ⊢
    refine stp ?_; try with_reducible exact True.intro
    refine Br.mk (fun h1 => ?_) (fun h1 => ?_) <;> simp [-Int.ofNat_toNat] at h1
    · have hmem : rdR l i ∈ l := by simp [rdR, h1]
      refine stp ?_; try with_reducible exact True.intro
      refine useT ((l2Same (rdR l i) (rdR m i) (hr _ hmem)).toT) ?_; try with_reducible exact True.intro
      refine Br.mk (fun h2 => ?_) (fun h2 => ?_) <;> simp [-Int.ofNat_toNat] at h2
      · refine stp ?_; try with_reducible exact True.intro
        have : l ≠ m := fun e => h2 (by rw [e])
        simp [this]
      · refine stp ?_; try with_reducible exact True.intro
        refine ⟨i + 1, (fitK [] []), ⟨h1, fun k hk1 => ?_⟩, by first | ((try dsimp only); omega) | (simp; omega)⟩
        by_cases e : k = i
        · rw [e]; exact h2
        · exact hk k (by omega)
    · refine stp ?_; try with_reducible exact True.intro
      have : l = m := by
        refine List.ext_getElem (by omega) fun k h2 h3 => ?_
        have := hk k (by omega)
        simpa [rdR, h2, h3] using this
      simp [this]
theorem l19Add (L : Nat) (hL : L ≤ 9) (S : List Tbl) (x : Tbl) (hS : ∀ s ∈ S, Tb L s) (hx : Tb L x) (hn : (S.length : Int) < 274877906944) : ConI Try.prog 75 [.own 0 0 S.length, .own 1 0 L] [.arr (.list (.list (.int .i64))) S false, .frz (.list (.int .i64)) x]
    (if hasT S x = true then .own 0 0 S.length else .own 2 0 (S.length + 1)) (if hasT S x = true then [.arr (.list (.list (.int .i64))) S false, .frz (.list (.int .i64)) x] else [.gone, .frz (.list (.int .i64)) x, .arr (.list (.list (.int .i64))) (addT S x) false]) := by
  have hxl := hx.len
  subst hxl
  refine conI_of hmix hTab Try.func75 rfl rfl (by kernel_rfl) (by show 2 ≤ Try.f75.ntmps; decide) ?_
  refine stp ?_; try with_reducible exact True.intro
  refine ⟨Nat, fun i => i ≤ S.length ∧ posT S x = i + posT (S.drop i) x, fun i => S.length - i, fun i => [(0, .own 0 0 S.length), (1, .own 1 0 (List.length x)), (5, .i i)], fun i => [.arr (.list (.list (.int .i64))) S false, .frz (.list (.int .i64)) x], ⟨0, (fitK [] [0, 1]), by simp⟩, fun i ⟨hi, hp⟩ => ?_⟩
  dsimp only at hi hp ⊢
  refine stp ?_; try with_reducible exact True.intro
  refine Br.mk (fun h1 => ?_) (fun h1 => ?_) <;> simp [-Int.ofNat_toNat] at h1
  · have hm := hS _ (rdS_mem h1)
    have hl := l19Less (rdS S i) x (by rw [hm.len]; exact hL) (by rw [hm.len, hx.len]) hm.small hx.small
    rw [drop_consS h1, posT] at hp
    have hsm := l11Same (rdS S i) x (by rw [hm.len]; omega) fun r hr => by rw [hm.prs r hr]; omega
    have heq := hm.eq_iff hx
    refine stp ?_; try with_reducible exact True.intro
    refine useT (hl.toT) ?_; try with_reducible exact True.intro
    refine Br.mk (fun c1 => ?_) (fun c1 => ?_) <;> simp [-Int.ofNat_toNat] at c1
    · rw [if_pos c1] at hp
      refine stp ?_; try with_reducible exact True.intro
      exact ⟨i + 1, (fitK [] [0, 1]), ⟨h1, by omega⟩, by first | ((try dsimp only); omega) | (simp; omega)⟩
    · rw [if_neg (by omega)] at hp
      refine stp ?_; try with_reducible exact True.intro
      refine brT (decide_eq_true (by omega)) ?_
      refine stp ?_; try with_reducible exact True.intro
      refine useT (hsm.toT) ?_; try with_reducible exact True.intro
      refine Br.mk (fun c2 => ?_) (fun c2 => ?_) <;> simp [-Int.ofNat_toNat] at c2
      · have hh : hasT S x = true := by
          simp only [hasT, Bool.and_eq_true, decide_eq_true_eq]
          rw [hp, Nat.add_zero]
          exact ⟨h1, heq.2 c2⟩
        simp only [hh, if_true]
        refine stp ?_; try with_reducible exact True.intro
        exact (fitK [] [0, 1])
      · have hh : hasT S x = false := by
          simp only [hasT, Bool.and_eq_false_iff, decide_eq_false_iff_not]
          rw [hp, Nat.add_zero]
          exact .inr fun c => c2 (heq.1 c)
        simp only [hh, Bool.false_eq_true, if_false]
        have had : addT S x = S.take i ++ x :: S.drop i := by
          rw [addT, hh, if_neg (by simp), hp, Nat.add_zero]
        rw [had]
        refine stp ?_; try with_reducible exact True.intro
        refine Or.inr ?_; refine stp ?_; try with_reducible exact True.intro
        refine Or.inr ?_; refine stp ?_; try with_reducible exact True.intro
        refine Or.inr ?_; refine stp ?_; try with_reducible exact True.intro
        refine Or.inr ?_; refine stp ?_; try with_reducible exact True.intro
        refine Or.inr ?_; refine stp ?_; try with_reducible exact True.intro
        refine ⟨.frz [], [0, 1, 6], ⟨?_, trivial⟩, ⟨rfl, rfl, ?_, trivial⟩, by decide, rfl, rfl, rfl⟩
        · show V.own 6 0 _ = V.own 6 0 _
          congr 1
          simp
          omega
        · refine congrArg (fun x => some (Obj.arr (.list (.list (.int .i64))) x false)) ?_
          simp
          rw [List.take_of_length_le (l := List.take i S ++ [x]) (by simp; omega), List.take_take, Nat.min_self, List.take_of_length_le (l := List.drop i S) (by simp)]
          simp
  · obtain rfl : i = S.length := by omega
    rw [List.drop_of_length_le (Nat.le_refl _), posT, Nat.add_zero] at hp
    have hh : hasT S x = false := by
      simp only [hasT, hp, Nat.lt_irrefl, decide_false, Bool.false_and]
    have had : addT S x = S.take S.length ++ x :: S.drop S.length := by
      rw [addT, hh, if_neg (by simp), hp]
    rw [had]
    simp only [hh, Bool.false_eq_true, if_false]
    refine stp ?_; try with_reducible exact True.intro
    refine brF (decide_eq_false (by omega)) ?_
    refine stp ?_; try with_reducible exact True.intro
    refine Or.inr ?_; refine stp ?_; try with_reducible exact True.intro
    refine Or.inr ?_; refine stp ?_; try with_reducible exact True.intro
    refine Or.inr ?_; refine stp ?_; try with_reducible exact True.intro
    refine Or.inr ?_; refine stp ?_; try with_reducible exact True.intro
    refine Or.inr ?_; refine stp ?_; try with_reducible exact True.intro
    refine ⟨.frz [], [0, 1, 6], ⟨?_, trivial⟩, ⟨rfl, rfl, ?_, trivial⟩, by decide, rfl, rfl, rfl⟩
    · show V.own 6 0 _ = V.own 6 0 _
      congr 1
      simp
    · refine congrArg (fun x => some (Obj.arr (.list (.list (.int .i64))) x false)) ?_
      simp
      rw [List.take_of_length_le (by simp)]
/-- What comes of changes at an edge. -/
def nbr (g : Int) (ll : Tbl) (e way : Nat) : Tbl := leastP g (swp ll e way)
def fromW (g : Int) (ll : Tbl) (S : List Tbl) (e : Nat) : Nat → List Tbl
  | 0 => S
  | w + 1 => if rd (rdR ll e) 0 = rd (rdR ll e) 1 then S else addT (fromW g ll S e w) (nbr g ll e w)
def fromE (g : Int) (ll : Tbl) : Nat → List Tbl
  | 0 => []
  | e + 1 => fromW g ll (fromE g ll e) e 2
def fromP (g : Int) (ll : Tbl) : List Tbl := fromE g ll ll.length
theorem nbr_facts {g : Int} {ll : Tbl} (h : isPants g ll = true) {e way : Nat} (he : e < ll.length) (hne : rd (rdR ll e) 0 ≠ rd (rdR ll e) 1) (hw : way < 2) : isPants g (nbr g ll e way) = true ∧ Tb ll.length (nbr g ll e way) := by
  unfold nbr
  have hs := swap_pants h he hne hw
  obtain ⟨f1, f2⟩ := leastP_facts hs
  have hp := least_pants hs
  obtain ⟨n, hn, n2, n6, hg, hlen, hl9, hok⟩ := pants_facts hp
  refine ⟨hp, ⟨f1.trans (swp_length _ _ _), f2, fun j hj => ?_⟩⟩
  obtain ⟨r1, r2, r3, r4⟩ := rowOk_facts (hok j hj)
  exact ⟨r1, ⟨r2, by omega⟩, ⟨by omega, by omega⟩⟩
theorem fromW_facts {g : Int} {ll : Tbl} (h : isPants g ll = true) {S : List Tbl} {e : Nat} (he : e < ll.length) {P : Tbl → Prop} (hP : ∀ w, w < 2 → rd (rdR ll e) 0 ≠ rd (rdR ll e) 1 → P (nbr g ll e w)) (hS : ∀ s ∈ S, P s) : ∀ w, w ≤ 2 → (∀ s ∈ fromW g ll S e w, P s) ∧ (fromW g ll S e w).length ≤ S.length + w
  | 0, _ => ⟨hS, Nat.le_refl _⟩
  | w + 1, hw => by
    obtain ⟨h1, h2⟩ := fromW_facts h he hP hS w (by omega)
    unfold fromW
    split
    · exact ⟨hS, by omega⟩
    · rename_i hne
      refine ⟨fun s hs => ?_, ?_⟩
      · rcases addT_mem hs with hs | rfl
        · exact h1 s hs
        · exact hP w (by omega) hne
      · rw [addT_len]
        split <;> omega
theorem fromE_facts {g : Int} {ll : Tbl} (h : isPants g ll = true) {P : Tbl → Prop} (hP : ∀ e w, e < ll.length → w < 2 → rd (rdR ll e) 0 ≠ rd (rdR ll e) 1 → P (nbr g ll e w)) : ∀ e, e ≤ ll.length → (∀ s ∈ fromE g ll e, P s) ∧ (fromE g ll e).length ≤ 2 * e
  | 0, _ => ⟨by simp [fromE], by simp [fromE]⟩
  | e + 1, he => by
    obtain ⟨h1, h2⟩ := fromE_facts h hP e (by omega)
    obtain ⟨h3, h4⟩ := fromW_facts h (show e < ll.length by omega) (fun w hw hne => hP e w (by omega) hw hne) h1 2 (Nat.le_refl _)
    exact ⟨h3, by unfold fromE; omega⟩
end Go.Proofs.YtlglchbkenaekaaTv
end
section
open Go Go.Proofs.YtlglchbkenaekaaVe Go.Proofs.YtlglchbkenaekaaTv Go.Proofs
namespace Go.Proofs.YtlglchbkenaekaaTv
set_option maxRecDepth 8000
set_option maxHeartbeats 2000000
theorem l19From (g : Int) (ll : Tbl) (h : isPants g ll = true) : ConT Try.prog 79 [.i g, .ill ll] (.own 0 0 (fromP g ll).length) [.arr (.list (.list (.int .i64))) (fromP g ll) false] := by
  refine conT_of hmix hTab Try.func79 rfl rfl (by kernel_rfl) (by show 2 ≤ Try.f79.ntmps; decide) ?_
  obtain ⟨n, hn, n2, n6, hg, hlen, hl9, hok⟩ := pants_facts h
  have hr2 : ∀ j : Nat, j < ll.length → (rdR ll j).length = 2 := fun j hj => (rowOk_facts (hok j hj)).1
  have hfp : fromP g ll = fromE g ll ll.length := rfl
  refine stp ?_; try with_reducible exact True.intro
  refine Or.inr ?_; refine stp ?_; try with_reducible exact True.intro
  refine ⟨Nat, fun e => e ≤ ll.length, fun e => ll.length - e, fun e => [(0, .i g), (1, .ill ll), (5, .own 0 0 (fromE g ll e).length), (6, .i e)], fun e => [.arr (.list (.list (.int .i64))) (fromE g ll e) false], ⟨0, (fitK [] [0]), Nat.zero_le _⟩, fun e he => ?_⟩
  dsimp only at he ⊢
  have hf := fromE_facts h (P := Tb ll.length) (fun e w h1 h2 h3 => (nbr_facts h h1 h3 h2).2) e he
  refine stp ?_; try with_reducible exact True.intro
  refine Br.mk (fun c1 => ?_) (fun c1 => ?_) <;> simp [-Int.ofNat_toNat] at c1
  · have hw := fun w => fromW_facts h c1 (P := Tb ll.length) (fun w h2 h3 => (nbr_facts h c1 h3 h2).2) hf.1 w
    have hnext : fromE g ll (e + 1) = fromW g ll (fromE g ll e) e 2 := rfl
    have ql : List.length (rdT (.list (.int .i64)) ll (e : Int)) = (rdR ll e).length := rfl; have q0 : @Eq Int (rdT (.int .i64) (rdT (.list (.int .i64)) ll (e : Int)) 0) (rd (rdR ll e) 0) := rfl; have q1 : @Eq Int (rdT (.int .i64) (rdT (.list (.int .i64)) ll (e : Int)) 1) (rd (rdR ll e) 1) := rfl; have qlo : List.length (rdT (.list (.int .i64)) ll (((e : Int).toNat : Nat) : Int)) = (rdR ll e).length := rfl; have q0o : @Eq Int (rdT (.int .i64) (rdT (.list (.int .i64)) ll (((e : Int).toNat : Nat) : Int)) 0) (rd (rdR ll e) 0) := rfl; have q1o : @Eq Int (rdT (.int .i64) (rdT (.list (.int .i64)) ll (((e : Int).toNat : Nat) : Int)) 1) (rd (rdR ll e) 1) := rfl
    have hre := hr2 e c1
    refine stp ?_; try with_reducible exact True.intro
    refine ⟨Nat, fun w => w ≤ 2 ∧ (w = 0 ∨ rd (rdR ll e) 0 ≠ rd (rdR ll e) 1), fun w => 2 - w, fun w => [(0, .i g), (1, .ill ll), (5, .own 0 0 (fromW g ll (fromE g ll e) e w).length), (6, .i e), (7, .i w)], fun w => [.arr (.list (.list (.int .i64))) (fromW g ll (fromE g ll e) e w) false], ⟨0, (fitK [] [0]), by omega, .inl rfl⟩, fun w ⟨hw2, hwr⟩ => ?_⟩
    dsimp only at hw2 hwr ⊢
    have hS := hw w hw2
    have hst : fromW g ll (fromE g ll e) e (w + 1) = if rd (rdR ll e) 0 = rd (rdR ll e) 1 then fromE g ll e else addT (fromW g ll (fromE g ll e) e w) (nbr g ll e w) := rfl
    generalize hSg : fromW g ll (fromE g ll e) e w = S at *
    refine stp ?_; try with_reducible exact True.intro
    refine Br.mk (fun c2 => ?_) (fun c2 => ?_) <;> simp [-Int.ofNat_toNat] at c2
    · replace c2 : w < 2 := by omega
      refine stp ?_; try with_reducible exact True.intro
      refine Br.mk (fun c3 => ?_) (fun c3 => ?_) <;> simp only [decide_eq_true_eq, decide_eq_false_iff_not, ne_eq, Decidable.not_not, Bool.not_eq_eq_eq_not, Bool.not_true, Bool.not_false] at c3
      · replace c3 : rd (rdR ll e) 0 ≠ rd (rdR ll e) 1 := c3
        rw [if_neg c3] at hst
        have hswp := swap_pants h c1 c3 c2
        obtain ⟨n', hn', _, n6', _, _, sl9, sok⟩ := pants_facts hswp
        have hle := l19Least g n' hn' n6' (swp ll e w) sl9 (fun j hj => ends_of sok j hj)
        have hnb : leastF (swp ll e w) (allP n') (allP n').length = nbr g ll e w := by rw [nbr, leastP, show (2 * g - 2).toNat = n' by omega]
        have hnf := nbr_facts h c1 c3 c2
        rw [hnb] at hle
        have hsl := swp_length ll e w
        rw [hsl] at hle
        have had := l19Add ll.length hl9 S (nbr g ll e w) hS.1 hnf.2 (by omega)
        have hal := addT_len S (nbr g ll e w)
        refine stp ?_; try with_reducible exact True.intro
        refine useT (l19Swap ll e w (swp_facts h c1 c3 c2) c1 c2) ?_; try with_reducible exact True.intro
        refine useT (hle) ?_; try with_reducible exact True.intro
        cases hh : hasT S (nbr g ll e w) with
        | true =>
          simp only [hh, if_true] at had hal
          have hsame : addT S (nbr g ll e w) = S := by rw [addT, hh, if_pos rfl]
          refine useI [0, 2] (had) ?_; try with_reducible exact True.intro
          refine ⟨w + 1, ⟨.frz [], [0], ⟨rfl, rfl, ?_, rfl, rfl, trivial⟩, ⟨?_, trivial⟩, by decide, rfl, rfl, rfl⟩, ⟨by omega, .inr c3⟩, by first | ((try dsimp only); omega) | (simp; omega)⟩
          · rw [hst, hsame]; rfl
          · rw [hst, hsame]; rfl
        | false =>
          simp only [hh, Bool.false_eq_true, if_false] at had hal
          refine useI [0, 2] (had) ?_; try with_reducible exact True.intro
          refine ⟨w + 1, ⟨.frz [], [3], ⟨rfl, rfl, ?_, rfl, rfl, trivial⟩, ⟨?_, trivial⟩, by decide, rfl, rfl, rfl⟩, ⟨by omega, .inr c3⟩, by first | ((try dsimp only); omega) | (simp; omega)⟩
          · rw [hst, hal]; rfl
          · rw [hst]; rfl
      · replace c3 : rd (rdR ll e) 0 = rd (rdR ll e) 1 := c3
        obtain rfl : w = 0 := by omega
        have hlast : fromE g ll (e + 1) = S := by
          rw [hnext, ← hSg]
          simp [fromW, c3]
        refine stp ?_; try with_reducible exact True.intro
        refine ⟨e + 1, ⟨.frz [], [0], ⟨rfl, rfl, ?_, rfl, trivial⟩, ⟨?_, trivial⟩, by decide, rfl, rfl, rfl⟩, c1, by first | ((try dsimp only); omega) | (simp; omega)⟩
        · rw [hlast]; rfl
        · rw [hlast]; rfl
    · obtain rfl : w = 2 := by omega
      have hlast : fromE g ll (e + 1) = S := by rw [hnext, hSg]
      refine stp ?_; try with_reducible exact True.intro
      refine ⟨e + 1, ⟨.frz [], [0], ⟨rfl, rfl, ?_, rfl, trivial⟩, ⟨?_, trivial⟩, by decide, rfl, rfl, rfl⟩, c1, by first | ((try dsimp only); omega) | (simp; omega)⟩
      · rw [hlast]; rfl
      · rw [hlast]; rfl
  · obtain rfl : e = ll.length := by omega
    rw [hfp]
    refine stp ?_; try with_reducible exact True.intro
    exact (fitK [] [0])
theorem PantsFromS {g : Int} {ll : Tbl} (hll : (ll.length : Int) ≤ 1048576) (h : isPants g ll = true) : ConT Try.prog 37 [.i g, .ill ll] (.own 0 0 (fromP g ll).length) [.arr (.list (.list (.int .i64))) (fromP g ll) false] := by
  refine conT_of hmix hTab Try.func37 rfl rfl (by kernel_rfl) (by show 2 ≤ Try.f37.ntmps; decide) ?_
  refine stp ?_; try with_reducible exact True.intro
  refine useT ((IsPantsS g ll hll).toT) ?_; try with_reducible exact True.intro
  refine brF (by rw [h]; rfl) ?_
  refine stp ?_; try with_reducible exact True.intro
  refine useT (l19From g ll h) ?_; try with_reducible exact True.intro
  exact (fitK [] [0])
theorem PantsFromS0 {g : Int} {ll : Tbl} (hll : (ll.length : Int) ≤ 1048576) (h : isPants g ll = false) : ConT Try.prog 37 [.i g, .ill ll] (.own 0 0 0) [.arr (.list (.list (.int .i64))) [] true] := by
  refine conT_of hmix hTab Try.func37 rfl rfl (by kernel_rfl) (by show 2 ≤ Try.f37.ntmps; decide) ?_
  refine stp ?_; try with_reducible exact True.intro
  refine useT ((IsPantsS g ll hll).toT) ?_; try with_reducible exact True.intro
  refine brT (by rw [h]; rfl) ?_
  refine stp ?_; try with_reducible exact True.intro
  refine Or.inl ?_; refine stp ?_; try with_reducible exact True.intro
  exact (fitK [] [0])
end Go.Proofs.YtlglchbkenaekaaTv
end
section
open Go Go.Proofs.YtlglchbkenaekaaVe Go.Proofs.YtlglchbkenaekaaTv Go.Proofs
namespace Go.Proofs.YtlglchbkenaekaaTv
set_option maxRecDepth 8000
set_option maxHeartbeats 2000000
theorem shift_gen {α : Type} {out : List α} {own d : α} {j k n : Nat} (hj : j = k) (hk : k ≤ out.length) (hn : n = out.length - k) : (List.take j (out ++ [d]) ++ d :: List.take n (List.drop j (out ++ [d]))).set j own = out.take k ++ own :: out.drop k := by
  subst hj; subst hn
  have e : (out.take j).length = j := by simp; omega
  rw [List.take_append_of_le_length hk, List.drop_append_of_le_length hk, List.take_append_of_le_length (by simp), List.take_of_length_le (l := out.drop j) (by simp), List.set_append_right _ _ (by omega), e, Nat.sub_self, List.set_cons_zero]
theorem set_selfS {S : List Tbl} {j k : Nat} (hj : j = k) : S.set j (rdS S k) = S := by
  subst hj
  rcases Nat.lt_or_ge j S.length with h | h
  · simp [rdS, h]
  · exact List.set_eq_of_length_le h
theorem pantsSet (L : Nat) (hL : L ≤ 9) (hL0 : 0 < L) (S : List Tbl) (x : Tbl) (hS : ∀ s ∈ S, Tb L s) (hx : Tb L x) (hn : (S.length : Int) < 274877906944) : ConI Try.prog 77 [.own 0 0 S.length, .own 1 0 L] [.arr (.list (.list (.int .i64))) S true, .arr (.list (.int .i64)) x true]
    (if hasT S x = true then .tup [.own 0 0 S.length, .b false] else .tup [.own 2 0 (S.length + 1), .b true]) (if hasT S x = true then [.arr (.list (.list (.int .i64))) S true, .arr (.list (.int .i64)) x true] else [.gone, .gone, .arr (.list (.list (.int .i64))) (addT S x) true]) := by
  have hxl := hx.len
  subst hxl
  refine conI_of hmix hTab Try.func77 rfl rfl (by kernel_rfl) (by show 2 ≤ Try.f77.ntmps; decide) ?_
  refine stp ?_; try with_reducible exact True.intro
  refine ⟨Nat, fun i => i ≤ S.length ∧ posT S x = i + posT (S.drop i) x, fun i => S.length - i, fun i => [(0, .own 0 0 S.length), (1, .own 1 0 (List.length x)), (6, .i i)], fun i => [.arr (.list (.list (.int .i64))) S true, .arr (.list (.int .i64)) x true], ⟨0, (fitK [] [0, 1]), by simp⟩, fun i ⟨hi, hp⟩ => ?_⟩
  dsimp only at hi hp ⊢
  refine stp ?_; try with_reducible exact True.intro
  refine Br.mk (fun h1 => ?_) (fun h1 => ?_) <;> simp [-Int.ofNat_toNat] at h1
  · have hm := hS _ (rdS_mem h1)
    have hc := compareRows (rdS S i) x (by rw [hm.len]; exact hL) (by rw [hm.len]) hm.small hx.small
    rw [drop_consS h1, posT] at hp
    have heq := hm.eq_iff hx
    have hml := hm.len
    have hg : S.getD (i : Int).toNat [] = rdS S i := rfl
    have hset : S.set (i : Int).toNat (rdS S i) = S := set_selfS (by omega)
    refine stp ?_; try with_reducible exact True.intro
    refine .inr ⟨by first | rfl | trivial, by omega, ⟨fun he => ?_, ?_⟩⟩
    · rw [hg] at he
      rw [he] at hml
      exfalso
      simp at hml
      omega
    simp only [hg]
    refine stp ?_; try with_reducible exact True.intro
    refine useT (hc.toT) ?_; try with_reducible exact True.intro
    refine Br.mk (fun c1 => ?_) (fun c1 => ?_) <;> simp [-Int.ofNat_toNat] at c1
    · rw [if_pos c1] at hp
      refine stp ?_; try with_reducible exact True.intro
      refine ⟨i + 1, ⟨.jn 0 ⟨Nat.le_refl 2, _, rfl, rfl, by simp, by simp, rfl⟩ (.frz []), [0, 1], ⟨rfl, rfl, rfl, trivial⟩, ⟨?_, rfl, trivial⟩, by decide, rfl, rfl, rfl⟩, ⟨h1, by omega⟩, by first | ((try dsimp only); omega) | (simp; omega)⟩
      show some (Obj.arr (.list (.list (.int .i64))) (S.set (i : Int).toNat (rdS S i)) true) = _
      rw [hset]
      rfl
    · rw [if_neg (by omega)] at hp
      refine stp ?_; try with_reducible exact True.intro
      refine brT (decide_eq_true (by omega)) ?_
      refine stp ?_; try with_reducible exact True.intro
      refine .inl ⟨rfl, ?_⟩
      refine stp ?_; try with_reducible exact True.intro
      refine useT (hc.toT) ?_; try with_reducible exact True.intro
      refine Br.mk (fun c2 => ?_) (fun c2 => ?_) <;> simp [-Int.ofNat_toNat] at c2
      · have hh : hasT S x = true := by
          simp only [hasT, Bool.and_eq_true, decide_eq_true_eq]
          rw [hp, Nat.add_zero]
          exact ⟨h1, c2⟩
        simp only [hh, if_true]
        refine stp ?_; try with_reducible exact True.intro
        refine ⟨.jn 0 ⟨Nat.le_refl 2, _, rfl, rfl, by simp, by simp, rfl⟩ (.frz []), [0, 1], ⟨rfl, trivial⟩, ⟨?_, rfl, trivial⟩, by decide, rfl, rfl, rfl⟩
        show some (Obj.arr (.list (.list (.int .i64))) (S.set (i : Int).toNat (rdS S i)) true) = _
        rw [hset]
        rfl
      · have hh : hasT S x = false := by
          simp only [hasT, Bool.and_eq_false_iff, decide_eq_false_iff_not]
          rw [hp, Nat.add_zero]
          exact .inr c2
        have had : addT S x = S.take i ++ x :: S.drop i := by
          rw [addT, hh, if_neg (by simp), hp, Nat.add_zero]
        rw [had]
        simp only [hh, Bool.false_eq_true, if_false]
        refine stp ?_; try with_reducible exact True.intro
        refine Or.inl ?_
        refine stp ?_; try with_reducible exact True.intro
        simp only [hset]
        refine Or.inl ⟨_, _, rfl, rfl, by decide, rfl, by first | rfl | omega | (simp; done) | (simp; omega), rfl, by first | rfl | omega | (simp; done) | (simp; omega), by first | omega | (simp; omega), ?_⟩; refine stp ?_; try with_reducible exact True.intro
        refine ⟨.frz [], [0, 1, 4], ⟨rfl, trivial⟩, ⟨rfl, rfl, ?_, trivial⟩, by decide, rfl, rfl, rfl⟩
        exact congrArg (fun x => some (Obj.arr (.list (.list (.int .i64))) x true)) (shift_gen (k := i) (by simp) hi (by simp; omega))
  · obtain rfl : i = S.length := by omega
    rw [List.drop_of_length_le (Nat.le_refl _), posT, Nat.add_zero] at hp
    have hh : hasT S x = false := by
      simp only [hasT, hp, Nat.lt_irrefl, decide_false, Bool.false_and]
    have had : addT S x = S.take S.length ++ x :: S.drop S.length := by
      rw [addT, hh, if_neg (by simp), hp]
    rw [had]
    simp only [hh, Bool.false_eq_true, if_false]
    refine stp ?_; try with_reducible exact True.intro
    refine brF (decide_eq_false (by omega)) ?_
    refine stp ?_; try with_reducible exact True.intro
    refine Or.inl ?_
    refine stp ?_; try with_reducible exact True.intro
    refine Or.inl ⟨_, _, rfl, rfl, by decide, rfl, by first | rfl | omega | (simp; done) | (simp; omega), rfl, by first | rfl | omega | (simp; done) | (simp; omega), by first | omega | (simp; omega), ?_⟩; refine stp ?_; try with_reducible exact True.intro
    refine ⟨.frz [], [0, 1, 3], ⟨rfl, trivial⟩, ⟨rfl, rfl, ?_, trivial⟩, by decide, rfl, rfl, rfl⟩
    exact congrArg (fun x => some (Obj.arr (.list (.list (.int .i64))) x true)) (shift_gen (k := S.length) (by simp) hi (by simp))
theorem PantsFromI {g : Int} {ll : Tbl} (hll : (ll.length : Int) ≤ 1048576) (h : isPants g ll = true) : ConT Try.prog 38 [.i g, .ill ll] (.own 0 0 (fromP g ll).length) [.arr (.list (.list (.int .i64))) (fromP g ll) true] := by
  refine conT_of hmix hTab Try.func38 rfl rfl (by kernel_rfl) (by show 2 ≤ Try.f38.ntmps; decide) ?_
  obtain ⟨n, hn, n2, n6, hg, hlen, hl9, hok⟩ := pants_facts h
  have hfp : fromP g ll = fromE g ll ll.length := rfl
  refine stp ?_; try with_reducible exact True.intro
  refine useT ((IsPantsI g ll hll).toT) ?_; try with_reducible exact True.intro
  refine brF (by rw [h]; rfl) ?_
  refine stp ?_; try with_reducible exact True.intro
  refine Or.inl ?_; refine stp ?_; try with_reducible exact True.intro
  refine ⟨Nat, fun e => e ≤ ll.length, fun e => ll.length - e, fun e => [(0, .i g), (1, .ill ll), (5, .own 0 0 (fromE g ll e).length), (16, .i ll.length), (17, .i e)], fun e => [.arr (.list (.list (.int .i64))) (fromE g ll e) true], ⟨0, (fitK [] [0]), Nat.zero_le _⟩, fun e he => ?_⟩
  dsimp only at he ⊢
  have hf := fromE_facts h (P := Tb ll.length) (fun e w h1 h2 h3 => (nbr_facts h h1 h3 h2).2) e he
  refine stp ?_; try with_reducible exact True.intro
  refine Br.mk (fun c1 => ?_) (fun c1 => ?_) <;> simp [-Int.ofNat_toNat] at c1
  · have hw := fun w => fromW_facts h c1 (P := Tb ll.length) (fun w h2 h3 => (nbr_facts h c1 h3 h2).2) hf.1 w
    have hnext : fromE g ll (e + 1) = fromW g ll (fromE g ll e) e 2 := rfl
    refine stp ?_; try with_reducible exact True.intro
    refine ⟨Nat, fun w => w ≤ 2, fun w => 2 - w, fun w => [(0, .i g), (1, .ill ll), (5, .own 0 0 (fromW g ll (fromE g ll e) e w).length), (6, .i e), (16, .i ll.length), (17, .i e), (20, .i w)], fun w => [.arr (.list (.list (.int .i64))) (fromW g ll (fromE g ll e) e w) true], ⟨0, (fitK [] [0]), by omega⟩, fun w hw2 => ?_⟩
    dsimp only at hw2 ⊢
    have hS := hw w hw2
    have hst : fromW g ll (fromE g ll e) e (w + 1) = if rd (rdR ll e) 0 = rd (rdR ll e) 1 then fromE g ll e else addT (fromW g ll (fromE g ll e) e w) (nbr g ll e w) := rfl
    have hloop : rd (rdR ll e) 0 = rd (rdR ll e) 1 → fromW g ll (fromE g ll e) e w = fromE g ll e := fun c => by
      cases w with
      | zero => rfl
      | succ w => simp [fromW, c]
    generalize hSg : fromW g ll (fromE g ll e) e w = S at *
    refine stp ?_; try with_reducible exact True.intro
    refine Br.mk (fun c2 => ?_) (fun c2 => ?_) <;> simp [-Int.ofNat_toNat] at c2
    · replace c2 : w < 2 := by omega
      have hsw := SwapEndsI g ll e w hll
      have hsok : swapOk g ll e w = decide (rd (rdR ll e) 0 ≠ rd (rdR ll e) 1) := by
        simp only [swapOk, h, Bool.true_and]
        rw [decide_eq_true (show (0 : Int) ≤ e ∧ (e : Int) ≤ (ll.length : Int) - 1 by omega), decide_eq_true (show (0 : Int) ≤ w ∧ (w : Int) ≤ 1 by omega)]
        simp
      rw [hsok, show (e : Int).toNat = e by omega, show (w : Int).toNat = w by omega] at hsw
      by_cases c3 : rd (rdR ll e) 0 = rd (rdR ll e) 1
      · rw [if_pos c3] at hst
        simp only [c3, ne_eq, not_true_eq_false, decide_false, Bool.false_eq_true, if_false] at hsw
        refine stp ?_; try with_reducible exact True.intro
        refine useT (hsw) ?_; try with_reducible exact True.intro
        refine ⟨w + 1, ⟨.frz [], [0], ⟨rfl, rfl, ?_, rfl, rfl, rfl, rfl, trivial⟩, ⟨?_, trivial⟩, by decide, rfl, rfl, rfl⟩, by first | ((try dsimp only); omega) | (simp; omega), by first | ((try dsimp only); omega) | (simp; omega)⟩
        · rw [hst, ← hloop c3]; rfl
        · rw [hst, ← hloop c3]; rfl
      · rw [if_neg c3] at hst
        simp only [c3, ne_eq, not_false_eq_true, decide_true, if_true] at hsw
        have hswp := swap_pants h c1 c3 c2
        have hsl := swp_length ll e w
        have hle := LeastPantsI (ll := swp ll e w) (by rw [hsl]; exact hll) hswp
        change ConT _ _ _ _ [.arr (.list (.int .i64)) (nbr g ll e w) true] at hle
        have hnf := nbr_facts h c1 c3 c2
        rw [hsl] at hle
        have had := pantsSet ll.length hl9 (by omega) S (nbr g ll e w) hS.1 hnf.2 (by omega)
        have hal := addT_len S (nbr g ll e w)
        refine stp ?_; try with_reducible exact True.intro
        refine useT (hsw) ?_; try with_reducible exact True.intro
        refine useT (hle) ?_; try with_reducible exact True.intro
        cases hh : hasT S (nbr g ll e w) with
        | true =>
          simp only [hh, if_true] at had hal
          have hsame : addT S (nbr g ll e w) = S := by rw [addT, hh, if_pos rfl]
          refine useI [0, 2] (had) ?_; try with_reducible exact True.intro
          refine ⟨w + 1, ⟨.frz [], [0], ⟨rfl, rfl, ?_, rfl, rfl, rfl, rfl, trivial⟩, ⟨?_, trivial⟩, by decide, rfl, rfl, rfl⟩, by first | ((try dsimp only); omega) | (simp; omega), by first | ((try dsimp only); omega) | (simp; omega)⟩
          · rw [hst, hsame]; rfl
          · rw [hst, hsame]; rfl
        | false =>
          simp only [hh, Bool.false_eq_true, if_false] at had hal
          refine useI [0, 2] (had) ?_; try with_reducible exact True.intro
          refine ⟨w + 1, ⟨.frz [], [3], ⟨rfl, rfl, ?_, rfl, rfl, rfl, rfl, trivial⟩, ⟨?_, trivial⟩, by decide, rfl, rfl, rfl⟩, by first | ((try dsimp only); omega) | (simp; omega), by first | ((try dsimp only); omega) | (simp; omega)⟩
          · rw [hst, hal]; rfl
          · rw [hst]; rfl
    · obtain rfl : w = 2 := by omega
      have hlast : fromE g ll (e + 1) = S := by rw [hnext, hSg]
      refine stp ?_; try with_reducible exact True.intro
      refine ⟨e + 1, ⟨.frz [], [0], ⟨rfl, rfl, ?_, rfl, rfl, trivial⟩, ⟨?_, trivial⟩, by decide, rfl, rfl, rfl⟩, c1, by first | ((try dsimp only); omega) | (simp; omega)⟩
      · rw [hlast]; rfl
      · rw [hlast]; rfl
  · obtain rfl : e = ll.length := by omega
    rw [hfp]
    refine stp ?_; try with_reducible exact True.intro
    exact (fitK [] [0])
theorem PantsFromI0 {g : Int} {ll : Tbl} (hll : (ll.length : Int) ≤ 1048576) (h : isPants g ll = false) : ConT Try.prog 38 [.i g, .ill ll] (.nil .unit) [] := by
  refine conT_of hmix hTab Try.func38 rfl rfl (by kernel_rfl) (by show 2 ≤ Try.f38.ntmps; decide) ?_
  refine stp ?_; try with_reducible exact True.intro
  refine useT ((IsPantsI g ll hll).toT) ?_; try with_reducible exact True.intro
  refine brT (by rw [h]; rfl) ?_
  refine stp ?_; try with_reducible exact True.intro
  exact (fitK [] [])
end Go.Proofs.YtlglchbkenaekaaTv
end
section
open Go Go.Proofs.YtlglchbkenaekaaVe Go.Proofs.YtlglchbkenaekaaTv Go.Proofs
namespace Go.Proofs.YtlglchbkenaekaaTv
set_option maxRecDepth 8000
set_option maxHeartbeats 2000000
def totalS : List Tbl → Int
  | [] => 0
  | r :: rs => total r + totalS rs
def marksS (n : Int) : List Tbl → List Tbl
  | [] => []
  | r :: rs => marksR n r :: marksS (n + total r) rs
@[simp] theorem marksS_length : ∀ (n : Int) (ll : List Tbl), (marksS n ll).length = ll.length
  | _, [] => rfl
  | n, r :: rs => by simp [marksS, marksS_length]
theorem totalS_nonneg : ∀ ll, 0 ≤ totalS ll
  | [] => by simp [totalS]
  | r :: rs => by have := totalS_nonneg rs; have := total_nonneg r; simp only [totalS]; omega
theorem totalS_append : ∀ (l m : List Tbl), totalS (l ++ m) = totalS l + totalS m
  | [], m => by simp [totalS]
  | r :: l, m => by simp only [List.cons_append, totalS, totalS_append l m]; omega
theorem marksS_append : ∀ (n : Int) (l m : List Tbl), marksS n (l ++ m) = marksS n l ++ marksS (n + totalS l) m
  | n, [], m => by simp [marksS, totalS]
  | n, r :: l, m => by
    simp only [List.cons_append, marksS, marksS_append _ l m, totalS]
    rw [show n + total r + totalS l = n + (total r + totalS l) by omega]
theorem take_succS {l : List Tbl} {i : Nat} (h : i < l.length) : l.take (i + 1) = l.take i ++ [rdS l i] := by
  rw [List.take_add_one]
  simp [rdS, h]
theorem markIntSSN' (n : Int) : ConS Try.prog 20 [.nil (.list (.int .i64)), .i n] (.i n) := by
  refine conS_of hmix hTab Try.func20 rfl rfl (by kernel_rfl) (by show 2 ≤ Try.f20.ntmps; decide) rfl ?_
  refine stp ?_; try with_reducible exact True.intro
  refine ⟨Unit, fun _ => True, fun _ => 0, fun _ => [(0, .nil (.list (.int .i64))), (1, .i n), (5, .i 0)], fun _ => [], ⟨(), ⟨.frz [], [], ⟨rfl, rfl, rfl, trivial⟩, trivial, by decide, rfl, rfl, rfl⟩, trivial⟩, fun _ _ => ?_⟩
  refine stp ?_; try with_reducible exact True.intro
theorem eqIntSSS (l m : List Tbl) (hl : (l.length : Int) ≤ 274877906944) (hr : ∀ r ∈ l, (r.length : Int) ≤ 274877906944) (hr2 : ∀ r ∈ l, ∀ x ∈ r, (x.length : Int) ≤ 274877906944) : ConS Try.prog 32 [.val (.list (.list (.list (.int .i64)))) l, .val (.list (.list (.list (.int .i64)))) m] (.b (decide (l = m))) := by
  refine conS_of hmix hTab Try.func32 rfl rfl (by kernel_rfl) (by show 2 ≤ Try.f32.ntmps; decide) rfl ?_
  refine stp ?_; try with_reducible exact True.intro
  refine Br.mk (fun h => ?_) (fun h => ?_) <;> simp at h
  · refine stp ?_; try with_reducible exact True.intro
    have : l ≠ m := fun e => h (by rw [e])
    simp [this]
  · refine stp ?_; try with_reducible exact True.intro
    refine ⟨Nat, fun i => i ≤ l.length ∧ ∀ k, k < i → rdS l k = rdS m k, fun i => l.length - i, fun i => [(0, .val (.list (.list (.list (.int .i64)))) l), (1, .val (.list (.list (.list (.int .i64)))) m), (5, .i i)], fun i => [], ⟨0, (fitK [] []), by simp⟩, fun i ⟨hi, hk⟩ => ?_⟩
    dsimp only at hi hk ⊢
    refine stp ?_; try with_reducible exact True.intro
    refine Br.mk (fun h1 => ?_) (fun h1 => ?_) <;> simp [-Int.ofNat_toNat] at h1
    · have hmem : rdS l i ∈ l := by simp [rdS, h1]
      refine stp ?_; try with_reducible exact True.intro
      refine useT ((eqIntSS (rdS l i) (rdS m i) (hr _ hmem) (hr2 _ hmem)).toT) ?_; try with_reducible exact True.intro
      refine Br.mk (fun h2 => ?_) (fun h2 => ?_) <;> simp at h2
      · refine stp ?_; try with_reducible exact True.intro
        have : l ≠ m := fun e => h2 (by rw [e])
        simp [this]
      · refine stp ?_; try with_reducible exact True.intro
        refine ⟨i + 1, (fitK [] []), ⟨h1, fun k hk1 => ?_⟩, by first | ((try dsimp only); omega) | (simp; omega)⟩
        by_cases e : k = i
        · rw [e]; exact h2
        · exact hk k (by omega)
    · refine stp ?_; try with_reducible exact True.intro
      have : l = m := by
        refine List.ext_getElem (by omega) fun k h2 h3 => ?_
        have := hk k (by omega)
        simpa [rdS, h2, h3] using this
      simp [this]
theorem markIntSSS (ll : List Tbl) (n : Int) (hn : 0 ≤ n ∧ n + totalS ll ≤ 1000000000000) (hl : (ll.length : Int) ≤ 274877906944) (hr : ∀ s ∈ ll, (s.length : Int) ≤ 274877906944) (hr2 : ∀ s ∈ ll, ∀ x ∈ s, (x.length : Int) ≤ 274877906944) : ConI Try.prog 33 [.own 0 0 ll.length, .i n] [.arr (.list (.list (.int .i64))) ll true] (.i (n + totalS ll)) [.arr (.list (.list (.int .i64))) (marksS n ll) true] := by
  refine conI_of hmix hTab Try.func33 rfl rfl (by kernel_rfl) (by show 2 ≤ Try.f33.ntmps; decide) ?_
  refine stp ?_; try with_reducible exact True.intro
  refine ⟨Nat, fun i => i ≤ ll.length, fun i => ll.length - i, fun i => [(0, .own 0 0 ll.length), (1, .i (n + totalS (ll.take i))), (5, .i i)], fun i => [.arr (.list (.list (.int .i64))) (marksS n (ll.take i) ++ ll.drop i) true], ⟨0, ⟨.frz [], [0], ⟨rfl, by simp [V.ren, EnvV.upd, EnvV.ev, env0T, totalS], rfl, trivial⟩, ⟨by simp [marksS, Obj.ren, frzI], trivial⟩, by decide, rfl, rfl, rfl⟩, Nat.zero_le _⟩, fun i hi => ?_⟩
  dsimp only at hi ⊢
  have hml := marksS_length n (ll.take i)
  have hlen : (marksS n (ll.take i) ++ ll.drop i).length = ll.length := by simp; omega
  have ht0 := totalS_nonneg (ll.take i)
  have ht1 : totalS ll = totalS (ll.take i) + totalS (ll.drop i) := by rw [← totalS_append, List.take_append_drop]
  have ht2 := totalS_nonneg (ll.drop i)
  refine stp ?_; try with_reducible exact True.intro
  refine Br.mk (fun h => ?_) (fun h => ?_) <;> simp [-Int.ofNat_toNat] at h
  · have hri := hr _ (rdS_mem h)
    have htt := total_nonneg (rdS ll i)
    have hrow : (marksS n (ll.take i) ++ ll.drop i).getD i [] = rdS ll i := by
      rw [drop_consS h, List.getD_eq_getElem?_getD, List.getElem?_append_right (by simp; omega)]
      simp [show i - min i ll.length = 0 by omega]
    have ht3 : totalS (ll.drop i) = total (rdS ll i) + totalS (ll.drop (i + 1)) := by rw [drop_consS h, totalS]
    have ht4 := totalS_nonneg (ll.drop (i + 1))
    have ht5 : totalS (ll.take (i + 1)) = totalS (ll.take i) + total (rdS ll i) := by rw [take_succS h, totalS_append]; simp [totalS]
    have hset : (marksS n (ll.take i) ++ ll.drop i).set i (marksR (n + totalS (ll.take i)) (rdS ll i)) = marksS n (ll.take (i + 1)) ++ ll.drop (i + 1) := by
      rw [take_succS h, marksS_append, drop_consS h, List.set_append_right _ _ (by simp; omega)]
      simp [marksS, show i - min i ll.length = 0 by omega]
    refine stp ?_; try with_reducible exact True.intro
    refine .inr ⟨rfl, by simp; omega, ⟨fun he => ?_, ?_⟩⟩
    · have hr0 : rdS ll i = [] := by rw [← hrow]; exact he
      rw [hr0] at ht5 hset
      refine stp ?_; try with_reducible exact True.intro
      refine useT ((markIntSSN' (n + totalS (ll.take i))).toT) ?_; try with_reducible exact True.intro
      refine ⟨i + 1, ⟨.jn 0 ⟨trivial, rfl⟩ (.frz []), [0], ⟨rfl, ?_, rfl, trivial⟩, ⟨?_, trivial⟩, by decide, rfl, rfl, rfl⟩, h, by first | ((try dsimp only); omega) | (simp; omega)⟩
      · simp [V.ren, EnvV.upd, EnvV.ev, ht5, total]
      · have hm0 : marksR (n + totalS (ll.take i)) [] = [] := rfl
        rw [hm0] at hset
        rw [← hset]
        rfl
    · have hm := markIntSSb (rdS ll i) (n + totalS (ll.take i)) (by omega) (by omega) (hr2 _ (rdS_mem h))
      have hg : (marksS n (ll.take i) ++ ll.drop i).getD (i : Int).toNat [] = rdS ll i := hrow
      simp only [hg]
      refine stp ?_; try with_reducible exact True.intro
      refine useI [1] (hm) ?_; try with_reducible exact True.intro
      refine ⟨i + 1, ⟨.jn 0 ⟨Nat.le_refl 1, _, rfl, rfl, by simp, Nat.zero_ne_one, rfl⟩ (.frz []), [0], ⟨rfl, ?_, rfl, trivial⟩, ⟨?_, trivial⟩, by decide, rfl, rfl, rfl⟩, h, by first | ((try dsimp only); omega) | (simp; omega)⟩
      · show V.i (n + totalS (ll.take i) + total (rdS ll i)) = V.i (n + totalS (ll.take (i + 1)))
        rw [ht5, Int.add_assoc]
      · rw [← hset]
        rfl
  · refine stp ?_; try with_reducible exact True.intro
    obtain rfl : i = ll.length := by omega
    exact ⟨.frz [], [0], ⟨by rw [List.take_of_length_le (Nat.le_refl _)]; rfl, trivial⟩, ⟨by simp [Obj.ren, frzI], trivial⟩, by decide, rfl, rfl, rfl⟩
theorem heldIntSSS (ll : List Tbl) (n : Int) (hn : 0 ≤ n ∧ n + totalS ll ≤ 1000000000000) (hl : (ll.length : Int) ≤ 274877906944) (hr : ∀ s ∈ ll, (s.length : Int) ≤ 274877906944) (hr2 : ∀ s ∈ ll, ∀ x ∈ s, (x.length : Int) ≤ 274877906944) : ConS Try.prog 34 [.val (.list (.list (.list (.int .i64)))) (marksS n ll), .i n] (.i (n + totalS ll)) := by
  refine conS_of hmix hTab Try.func34 rfl rfl (by kernel_rfl) (by show 2 ≤ Try.f34.ntmps; decide) rfl ?_
  have hml := marksS_length n ll
  refine stp ?_; try with_reducible exact True.intro
  refine ⟨Nat, fun i => i ≤ ll.length, fun i => ll.length - i, fun i => [(0, .val (.list (.list (.list (.int .i64)))) (marksS n ll)), (1, .i (n + totalS (ll.take i))), (5, .i i)], fun i => [], ⟨0, ⟨.frz [], [], ⟨rfl, by simp [V.ren, EnvV.upd, EnvV.ev, env0T, totalS], rfl, trivial⟩, trivial, by decide, rfl, rfl, rfl⟩, Nat.zero_le _⟩, fun i hi => ?_⟩
  dsimp only at hi ⊢
  have ht0 := totalS_nonneg (ll.take i)
  have ht1 : totalS ll = totalS (ll.take i) + totalS (ll.drop i) := by rw [← totalS_append, List.take_append_drop]
  have ht2 := totalS_nonneg (ll.drop i)
  refine stp ?_; try with_reducible exact True.intro
  refine Br.mk (fun h => ?_) (fun h => ?_) <;> simp [-Int.ofNat_toNat] at h
  · have hri := hr _ (rdS_mem h)
    have htt := total_nonneg (rdS ll i)
    have ht3 : totalS (ll.drop i) = total (rdS ll i) + totalS (ll.drop (i + 1)) := by rw [drop_consS h, totalS]
    have ht4 := totalS_nonneg (ll.drop (i + 1))
    have ht5 : totalS (ll.take (i + 1)) = totalS (ll.take i) + total (rdS ll i) := by rw [take_succS h, totalS_append]; simp [totalS]
    have hrow : rdS (marksS n ll) i = marksR (n + totalS (ll.take i)) (rdS ll i) := by
      have e : marksS n ll = marksS n (ll.take i) ++ marksS (n + totalS (ll.take i)) (ll.drop i) := by rw [← marksS_append, List.take_append_drop]
      rw [e, drop_consS h, marksS]
      simp only [rdS, List.getD_eq_getElem?_getD, Int.toNat_natCast]
      rw [List.getElem?_append_right (by simp; omega)]
      simp [show i - min i ll.length = 0 by omega]
    have hh := heldIntSSb (rdS ll i) (n + totalS (ll.take i)) (by omega) (by omega) (hr2 _ (rdS_mem h))
    rw [← hrow] at hh
    refine stp ?_; try with_reducible exact True.intro
    refine useT (hh.toT) ?_; try with_reducible exact True.intro
    refine Br.mk (fun h2 => ?_) (fun h2 => ?_) <;> simp [-Int.ofNat_toNat] at h2
    · omega
    · refine stp ?_; try with_reducible exact True.intro
      refine ⟨i + 1, ⟨.frz [], [], ⟨rfl, ?_, rfl, trivial⟩, trivial, by decide, rfl, rfl, rfl⟩, h, by first | ((try dsimp only); omega) | (simp; omega)⟩
      show V.i (n + totalS (ll.take i) + total (rdS ll i)) = V.i (n + totalS (ll.take (i + 1)))
      rw [ht5, Int.add_assoc]
  · obtain rfl : i = ll.length := by omega
    refine stp ?_; try with_reducible exact True.intro
    rw [List.take_of_length_le (Nat.le_refl _)]
theorem markIntSSSN (n : Int) : ConS Try.prog 33 [.nil .unit, .i n] (.i n) := by
  refine conS_of hmix hTab Try.func33 rfl rfl (by kernel_rfl) (by show 2 ≤ Try.f33.ntmps; decide) rfl ?_
  refine stp ?_; try with_reducible exact True.intro
  refine ⟨Unit, fun _ => True, fun _ => 0, fun _ => [(0, .nil .unit), (1, .i n), (5, .i 0)], fun _ => [], ⟨(), ⟨.frz [], [], ⟨rfl, rfl, rfl, trivial⟩, trivial, by decide, rfl, rfl, rfl⟩, trivial⟩, fun _ _ => ?_⟩
  refine stp ?_; try with_reducible exact True.intro
theorem heldIntSSSN (n : Int) : ConS Try.prog 34 [.nil .unit, .i n] (.i n) := by
  refine conS_of hmix hTab Try.func34 rfl rfl (by kernel_rfl) (by show 2 ≤ Try.f34.ntmps; decide) rfl ?_
  refine stp ?_; try with_reducible exact True.intro
  refine ⟨Unit, fun _ => True, fun _ => 0, fun _ => [(0, .nil .unit), (1, .i n), (5, .i 0)], fun _ => [], ⟨(), ⟨.frz [], [], ⟨rfl, rfl, rfl, trivial⟩, trivial, by decide, rfl, rfl, rfl⟩, trivial⟩, fun _ _ => ?_⟩
  refine stp ?_; try with_reducible exact True.intro
theorem totalS_le {S : List Tbl} {c : Nat} (h : ∀ s ∈ S, total s ≤ c) : totalS S ≤ S.length * c := by
  induction S with
  | nil => simp [totalS]
  | cons r ll ih =>
    have h1 := ih fun x hx => h x (by simp [hx])
    have h2 := h r (by simp)
    simp only [totalS, List.length_cons, Int.natCast_add, Int.natCast_one, Int.add_mul]
    omega
theorem lawPantsFrom (g : Int) (ll : List (List Int)) (hl : (ll.length : Int) ≤ 140737488355328) (hr : ∀ r ∈ ll, (r.length : Int) ≤ 140737488355328) : ConS Try.prog 10 [.i g, .ill ll] (.b true) := by
  refine conS_of hmix hTab Try.func10 rfl rfl (by kernel_rfl) (by show 2 ≤ Try.f10.ntmps; decide) rfl ?_
  refine stp ?_; try with_reducible exact True.intro
  refine useT ((szIntSS ll 1048576 (by decide) hl hr).toT) ?_; try with_reducible exact True.intro
  refine Br.mk (fun h1 => ?_) (fun h1 => ?_) <;> simp [-Int.ofNat_toNat] at h1
  · refine stp ?_; try with_reducible exact True.intro
  · obtain ⟨h2, h3⟩ := szSS_facts (Int.le_refl _) h1
    have h4 : ∀ r ∈ ll, (r.length : Int) ≤ 274877906944 := fun r hr => by have := h3 r hr; omega
    have h5 := szSS_total h1
    have hm := markIntSS ll 1 (by omega) (by omega)
    have ht0 := total_nonneg ll
    refine stp ?_; try with_reducible exact True.intro
    cases hP : isPants g ll with
    | true =>
      have hS := PantsFromS h2 hP
      have hI := PantsFromI h2 hP
      obtain ⟨n, hn, n2, n6, hg, hlen, hl9, hok⟩ := pants_facts hP
      obtain ⟨hf1, hf2⟩ := fromE_facts hP (P := Tb ll.length) (fun e w h1 h2 h3 => (nbr_facts hP h1 h3 h2).2) ll.length (Nat.le_refl _)
      change (∀ s ∈ fromP g ll, _) at hf1
      change (fromP g ll).length ≤ _ at hf2
      generalize fromP g ll = r at *
      have hr1 : ∀ s ∈ r, (s.length : Int) ≤ 274877906944 := fun s hs => by have := (hf1 s hs).len; omega
      have hr2 : ∀ s ∈ r, ∀ x ∈ s, (x.length : Int) ≤ 274877906944 := fun s hs x hx => by have := (hf1 s hs).prs x hx; omega
      have htr := totalS_le (S := r) (c := 18) fun s hs => by
        have h6 := total_le (ll := s) (c := 2) fun x hx => Nat.le_of_eq ((hf1 s hs).prs x hx)
        have := (hf1 s hs).len
        omega
      have htr0 := totalS_nonneg r
      have hml := marksS_length 1 r
      refine useT (toIntSS ll h2 h3) ?_; try with_reducible exact True.intro
      refine useT (hS) ?_; try with_reducible exact True.intro
      refine useT (toIntSS ll h2 h3) ?_; try with_reducible exact True.intro
      refine useT (hI) ?_; try with_reducible exact True.intro
      refine useT ((eqIntSSS r r (by omega) hr1 hr2).toT) ?_; try with_reducible exact True.intro
      refine Br.mk (fun h6 => ?_) (fun h6 => ?_) <;> simp [-Int.ofNat_toNat] at h6
      refine stp ?_; try with_reducible exact True.intro
      refine useT (toIntSS ll h2 h3) ?_; try with_reducible exact True.intro
      refine useT ((eqIntSS ll ll (by omega) h4).toT) ?_; try with_reducible exact True.intro
      refine Br.mk (fun h7 => ?_) (fun h7 => ?_) <;> simp [-Int.ofNat_toNat] at h7
      refine stp ?_; try with_reducible exact True.intro
      refine useI [2] (hm) ?_; try with_reducible exact True.intro
      refine brF (by simp; omega) ?_
      refine stp ?_; try with_reducible exact True.intro
      refine useT ((eqIntSSS r r (by omega) hr1 hr2).toT) ?_; try with_reducible exact True.intro
      refine Br.mk (fun h8 => ?_) (fun h8 => ?_) <;> simp [-Int.ofNat_toNat] at h8
      refine stp ?_; try with_reducible exact True.intro
      refine useI [3] (markIntSSS r 1 (by omega) (by omega) hr1 hr2) ?_; try with_reducible exact True.intro
      refine useT ((heldIntSSS r 1 (by omega) (by omega) hr1 hr2).toT) ?_; try with_reducible exact True.intro
      refine brF (by simp; omega) ?_
      refine stp ?_; try with_reducible exact True.intro
      refine Br.mk (fun h9 => ?_) (fun h9 => ?_) <;> simp [-Int.ofNat_toNat] at h9
      refine stp ?_; try with_reducible exact True.intro
      refine useT (toIntSS ll h2 h3) ?_; try with_reducible exact True.intro
      refine useT (hI) ?_; try with_reducible exact True.intro
      refine useT ((eqIntSSS r r (by omega) hr1 hr2).toT) ?_; try with_reducible exact True.intro
      refine Br.mk (fun h10 => ?_) (fun h10 => ?_) <;> simp [-Int.ofNat_toNat] at h10
      refine stp ?_; try with_reducible exact True.intro
      refine useT ((heldIntSSS r 1 (by omega) (by omega) hr1 hr2).toT) ?_; try with_reducible exact True.intro
      refine brF (by simp; omega) ?_
      refine stp ?_; try with_reducible exact True.intro
      refine Br.mk (fun h11 => ?_) (fun h11 => ?_) <;> simp [-Int.ofNat_toNat] at h11
      refine stp ?_; try with_reducible exact True.intro
    | false =>
      refine useT (toIntSS ll h2 h3) ?_; try with_reducible exact True.intro
      refine useT (PantsFromS0 h2 hP) ?_; try with_reducible exact True.intro
      refine useT (toIntSS ll h2 h3) ?_; try with_reducible exact True.intro
      refine useT (PantsFromI0 h2 hP) ?_; try with_reducible exact True.intro
      refine useT ((eqIntSSS [] [] (by simp) (by simp) (by simp)).toT) ?_; try with_reducible exact True.intro
      refine useT (toIntSS ll h2 h3) ?_; try with_reducible exact True.intro
      refine useT ((eqIntSS ll ll (by omega) h4).toT) ?_; try with_reducible exact True.intro
      refine Br.mk (fun h7 => ?_) (fun h7 => ?_) <;> simp [-Int.ofNat_toNat] at h7
      refine stp ?_; try with_reducible exact True.intro
      refine useI [2] (hm) ?_; try with_reducible exact True.intro
      refine brF (by simp; omega) ?_
      refine stp ?_; try with_reducible exact True.intro
      refine useT ((eqIntSSS [] [] (by simp) (by simp) (by simp)).toT) ?_; try with_reducible exact True.intro
      refine useT ((markIntSSSN 1).toT) ?_; try with_reducible exact True.intro
      refine useT ((heldIntSSSN 1).toT) ?_; try with_reducible exact True.intro
      refine useT (toIntSS ll h2 h3) ?_; try with_reducible exact True.intro
      refine useT (PantsFromI0 h2 hP) ?_; try with_reducible exact True.intro
      refine useT ((eqIntSSS [] [] (by simp) (by simp) (by simp)).toT) ?_; try with_reducible exact True.intro
      refine useT ((heldIntSSSN 1).toT) ?_; try with_reducible exact True.intro
end Go.Proofs.YtlglchbkenaekaaTv
end
section
open Go Go.Proofs.YtlglchbkenaekaaVe Go.Proofs.YtlglchbkenaekaaTv Go.Proofs
namespace Go.Proofs.YtlglchbkenaekaaTv
set_option maxRecDepth 8000
set_option maxHeartbeats 2000000
/-! How many pants there can be: the last edge follows from the others. -/
theorem len_sub {α : Type} [DecidableEq α] : ∀ (l m : List α), l.Nodup → (∀ x ∈ l, x ∈ m) → l.length ≤ m.length := by
  intro l
  induction l with
  | nil => intro m _ _; simp
  | cons x l ih =>
    intro m hn hs
    rw [List.nodup_cons] at hn
    have hx : x ∈ m := hs x (by simp)
    have := ih (m.erase x) hn.2 (fun y hy => (List.mem_erase_of_ne (by rintro rfl; exact hn.1 hy)).2 (hs y (by simp [hy])))
    rw [List.length_erase_of_mem hx] at this
    have hp : 0 < m.length := List.length_pos_of_mem hx
    simp only [List.length_cons]
    omega
def prs6 : List (List Int) := (List.range 6).flatMap fun (b : Nat) => (List.range (b + 1)).map fun (a : Nat) => [(a : Int), (b : Int)]
theorem prs6_mem : ∀ b : Nat, b < 6 → ∀ a : Nat, a ≤ b → [(a : Int), (b : Int)] ∈ prs6 := by decide
def tabs : Nat → List Tbl
  | 0 => [[]]
  | L + 1 => prs6.flatMap fun r => (tabs L).map (r :: ·)
theorem tabs_len : ∀ L, (tabs L).length = 21 ^ L
  | 0 => rfl
  | L + 1 => by
    have : ∀ l : List (List Int), (l.flatMap fun r => (tabs L).map (r :: ·)).length = l.length * 21 ^ L := fun l => by
      induction l with
      | nil => simp
      | cons r l ih => simp only [List.flatMap_cons, List.length_append, List.length_map, ih, tabs_len L, List.length_cons, Nat.succ_mul]; omega
    rw [tabs, this, show prs6.length = 21 by decide, Nat.pow_succ, Nat.mul_comm]
theorem row_prs6 {n : Nat} (hn : n ≤ 6) {r : List Int} (h : rowOk n r = true) : r ∈ prs6 := by
  obtain ⟨r1, r2, r3, r4⟩ := rowOk_facts h
  match r, r1 with
  | [a, b], _ =>
    replace r2 : 0 ≤ a := r2
    replace r3 : a ≤ b := r3
    replace r4 : b < n := r4
    have := prs6_mem b.toNat (by omega) a.toNat (by omega)
    rwa [show ((a.toNat : Nat) : Int) = a by omega, show ((b.toNat : Nat) : Int) = b by omega] at this
theorem tabs_mem {n : Nat} (hn : n ≤ 6) : ∀ (l : Tbl), (∀ r ∈ l, rowOk n r = true) → l ∈ tabs l.length
  | [], _ => by simp [tabs]
  | r :: l, h => by
    rw [List.length_cons, tabs, List.mem_flatMap]
    exact ⟨r, row_prs6 hn (h r (by simp)), List.mem_map.2 ⟨l, tabs_mem hn l fun q hq => h q (by simp [hq]), rfl⟩⟩
theorem row_of_occ {n : Nat} {r r' : List Int} (h : rowOk n r = true) (h' : rowOk n r' = true) (ho : ∀ v : Int, 0 ≤ v → v < n → occ v [r] = occ v [r']) : r = r' := by
  obtain ⟨r1, r2, r3, r4⟩ := rowOk_facts h
  obtain ⟨q1, q2, q3, q4⟩ := rowOk_facts h'
  have a1 := ho (rd r 0) r2 (by omega)
  have a2 := ho (rd r 1) (by omega) r4
  have a3 := ho (rd r' 0) q2 (by omega)
  have a4 := ho (rd r' 1) (by omega) q4
  simp only [occ] at a1 a2 a3 a4
  suffices h : rd r 0 = rd r' 0 ∧ rd r 1 = rd r' 1 from pair_ext r1 q1 h.1 h.2
  generalize rd r 0 = a at *
  generalize rd r 1 = b at *
  generalize rd r' 0 = c at *
  generalize rd r' 1 = d at *
  by_cases c1 : a = c
  · subst c1
    refine ⟨rfl, ?_⟩
    by_cases c2 : b = d
    · exact c2
    · exfalso
      have c3 : ¬ d = b := fun e => c2 e.symm
      by_cases c4 : b = a
      · have c5 : ¬ a = d := fun e => c2 (c4.trans e)
        simp [c4, c5] at a1
      · simp [c2, c4] at a2
  · exfalso
    have c2 : ¬ c = a := fun e => c1 e.symm
    by_cases c3 : a = d
    · have c4 : ¬ c = b := fun e => c1 (by omega)
      rw [if_neg c2, if_neg c4] at a3
      split at a3 <;> first | omega | (split at a3 <;> omega) | (rename_i hh; exact hh trivial)
    · simp [c1, c3] at a1
theorem pants_last {g : Int} {n : Nat} {a b : Tbl} (ha : PG g n a) (hb : PG g n b) (h : a.take (a.length - 1) = b.take (a.length - 1)) : a = b := by
  have h1 := ha.len; have h2 := hb.len; have hg := ha.g2
  have hl : a.length = b.length := by omega
  have ea : a = a.take (a.length - 1) ++ [rdR a ((a.length - 1 : Nat) : Int)] := by
    have := take_succR (l := a) (i := a.length - 1) (by omega)
    rw [show a.length - 1 + 1 = a.length by omega, List.take_length] at this
    exact this
  have eb : b = b.take (a.length - 1) ++ [rdR b ((a.length - 1 : Nat) : Int)] := by
    have := take_succR (l := b) (i := a.length - 1) (by omega)
    rw [show a.length - 1 + 1 = b.length by omega, List.take_length] at this
    exact this
  have : rdR a ((a.length - 1 : Nat) : Int) = rdR b ((a.length - 1 : Nat) : Int) := by
    refine row_of_occ (ha.row _ (rdR_mem (by omega))) (hb.row _ (rdR_mem (by omega))) fun v h0 h1 => ?_
    have o1 := ha.three v h0 h1
    have o2 := hb.three v h0 h1
    rw [ea, occ_append] at o1
    rw [eb, occ_append, ← h] at o2
    omega
  rw [ea, eb, h, this]
def bigB : Nat := 21 ^ 8
theorem bigB_le : (bigB : Int) ≤ 40000000000 := by decide
theorem nodup_mapT {α β : Type} {f : α → β} : ∀ {l : List α}, l.Nodup → (∀ x ∈ l, ∀ y ∈ l, f x = f y → x = y) → (l.map f).Nodup := by
  intro l
  induction l with
  | nil => intro _ _; simp
  | cons x l ih =>
    intro hn hi
    rw [List.nodup_cons] at hn
    rw [List.map_cons, List.nodup_cons]
    refine ⟨fun hm => ?_, ih hn.2 (fun a ha b hb => hi a (by simp [ha]) b (by simp [hb]))⟩
    obtain ⟨y, hy, e⟩ := List.mem_map.1 hm
    have := hi y (by simp [hy]) x (by simp) e
    exact hn.1 (this ▸ hy)
theorem pants_bound {g : Int} {S : List Tbl} (hd : S.Nodup) (hS : ∀ s ∈ S, isPants g s = true) : S.length ≤ bigB := by
  cases hs : S with
  | nil => simp
  | cons s0 S0 =>
    rw [← hs]
    obtain ⟨n, hn, n2, n6, hg, hlen, hl9, _⟩ := pants_facts (hS s0 (by simp [hs]))
    have hP := fun s h => (pants_iff hn).1 (hS s h)
    have hL : ∀ s ∈ S, s.length = s0.length := fun s h => by have := (hP s h).len; omega
    have h1 := len_sub (S.map fun s => s.take (s0.length - 1)) (tabs (s0.length - 1)) (nodup_mapT hd fun x hx y hy e => pants_last (hP x hx) (hP y hy) (by rw [hL x hx]; exact e)) fun x hx => by
      obtain ⟨s, h, rfl⟩ := List.mem_map.1 hx
      have h2 := tabs_mem n6 (s.take (s0.length - 1)) fun r hr => (hP s h).row r (List.mem_of_mem_take hr)
      rwa [show (s.take (s0.length - 1)).length = s0.length - 1 by have := hL s h; simp; omega] at h2
    rw [List.length_map, tabs_len] at h1
    exact Nat.le_trans h1 (Nat.pow_le_pow_right (by omega) (by omega))
/-! Ascending lists. -/
def Asc (S : List Tbl) : Prop := S.Pairwise fun a b => cmpF a b < 0
theorem asc_cons {s : Tbl} {S : List Tbl} : Asc (s :: S) ↔ (∀ b ∈ S, cmpF s b < 0) ∧ Asc S := List.pairwise_cons
theorem cmp_lt_trans {a b c : Tbl} {L : Nat} (ha : Tb L a) (hb : Tb L b) (hc : Tb L c) (h1 : cmpF a b < 0) (h2 : cmpF b c < 0) : cmpF a c < 0 := by
  have h3 := cmpF_le_trans (a := a) (b := b) (c := c) (by rw [ha.len, hb.len]) (by rw [hb.len, hc.len]) (by omega) (by omega)
  by_cases e : cmpF a c = 0
  · rw [(ha.eq_iff hc).1 e, cmpF_anti] at h1
    omega
  · omega
theorem Asc.nodup {S : List Tbl} (h : Asc S) : S.Nodup := List.Pairwise.imp (fun {a b} hab e => by rw [e, cmpF_self] at hab; omega) h
/-- What posT tells in an ascending list: those before are less, those from there on greater, or equal just there. -/
theorem add_facts {L : Nat} {x : Tbl} (hx : Tb L x) : ∀ {S : List Tbl}, Asc S → (∀ s ∈ S, Tb L s) → (hasT S x = true ↔ x ∈ S) ∧ Asc (addT S x) ∧ ∀ y, y ∈ addT S x ↔ y ∈ S ∨ y = x
  | [], _, _ => by simp [hasT, addT, posT, Asc]
  | s :: S, hA, hS => by
    obtain ⟨h1, h2⟩ := asc_cons.1 hA
    have hs := hS s (by simp)
    obtain ⟨i1, i2, i3⟩ := add_facts hx h2 fun t ht => hS t (by simp [ht])
    by_cases c : cmpF s x < 0
    · have hp : posT (s :: S) x = posT S x + 1 := by rw [posT, if_pos c]
      have hr : rdS (s :: S) ((posT S x + 1 : Nat) : Int) = rdS S (posT S x) := by
        simp only [rdS, Int.toNat_natCast, List.getD_cons_succ]
      have hh : hasT (s :: S) x = hasT S x := by
        simp only [hasT, hp, hr, List.length_cons, Nat.add_lt_add_iff_right]
      have hne : x ≠ s := fun e => by rw [e, cmpF_self] at c; omega
      have ha : addT (s :: S) x = s :: addT S x := by
        simp only [addT, hh, hp, List.take_succ_cons, List.drop_succ_cons]
        split <;> rfl
      refine ⟨by rw [hh, i1]; simp [hne], ?_, fun y => by rw [ha, List.mem_cons, i3, List.mem_cons, or_assoc]⟩
      rw [ha]
      refine asc_cons.2 ⟨fun b hb => ?_, i2⟩
      rcases (i3 b).1 hb with hb | rfl
      · exact h1 b hb
      · exact c
    · have hp : posT (s :: S) x = 0 := by rw [posT, if_neg c]
      have hr : rdS (s :: S) ((0 : Nat) : Int) = s := rfl
      by_cases e : cmpF s x = 0
      · obtain rfl := (hs.eq_iff hx).1 e
        have hh : hasT (s :: S) s = true := by simp only [hasT, hp, hr, cmpF_self]; simp
        refine ⟨by rw [hh]; simp, by rw [addT, if_pos hh]; exact hA, fun y => by rw [addT, if_pos hh]; simp; intro e; exact .inl e⟩
      · have hh : hasT (s :: S) x = false := by simp only [hasT, hp, hr, e]; simp
        have hlt : cmpF x s < 0 := by have := cmpF_anti x s; omega
        have hgt : ∀ b ∈ S, cmpF x b < 0 := fun b hb => cmp_lt_trans hx hs (hS b (by simp [hb])) hlt (h1 b hb)
        have ha : addT (s :: S) x = x :: s :: S := by rw [addT, hh, if_neg (by simp), hp]; rfl
        refine ⟨by
          rw [hh]
          refine ⟨fun h => (by cases h), fun h => ?_⟩
          rcases List.mem_cons.1 h with rfl | h
          · rw [cmpF_self] at hlt; omega
          · have := hgt x h
            rw [cmpF_self] at this; omega, ?_, fun y => by rw [ha, List.mem_cons]; exact or_comm⟩
        rw [ha]
        refine asc_cons.2 ⟨fun b hb => ?_, hA⟩
        rcases List.mem_cons.1 hb with rfl | hb
        · exact hlt
        · exact hgt b hb
theorem asc_unique {S T : List Tbl} (hS : Asc S) (hT : Asc T) (h : ∀ t, t ∈ S ↔ t ∈ T) : S = T :=
  ((List.perm_ext_iff_of_nodup hS.nodup hT.nodup).2 h).eq_of_pairwise (fun a b _ _ h1 h2 => by have := cmpF_anti a b; omega) hS hT
end Go.Proofs.YtlglchbkenaekaaTv
end
