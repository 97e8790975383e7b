/- What functions of the program give: each contract holds for all arguments that its own sentence names. -/
import Derived.Test.YtlglchbkenaekaaFnFnExactLeastPants2
set_option linter.unusedVariables false
set_option linter.unusedSimpArgs false
section
open Go Go.Proofs.YtlglchbkenaekaaVe Go.Proofs.YtlglchbkenaekaaTv Go.Proofs
namespace Go.Proofs.YtlglchbkenaekaaTv
set_option maxRecDepth 8000
set_option maxHeartbeats 2000000
theorem map_agE {l : List (Nat × Nat)} {i : Nat} (h : i < l.length) : (l.map agE).getD i (0, 0, ()) = agE (l.getD i (0, 0)) := by
  simp [h]
theorem SwapEndsI (g : Int) (ll : List (List Int)) (e way : Int) (hll : (ll.length : Int) ≤ 1048576) : ConT Try.prog 24 [.i g, .ill ll, .i e, .i way] (.tup [if swapOk g ll e way = true then .own 0 0 ll.length else .nil .unit, .b (swapOk g ll e way)]) (if swapOk g ll e way = true then [.arr (.list (.int .i64)) (swp ll e.toNat way.toNat) true] else []) := by
  refine conT_of hmix hTab Try.func24 rfl rfl (by kernel_rfl) (by show 4 ≤ Try.f24.ntmps; decide) ?_
  have hc := IsPantsI g ll hll
  cases hP : isPants g ll with
  | false =>
    rw [hP] at hc
    rw [show swapOk g ll e way = false by simp [swapOk, hP]]
    refine stp ?_; try with_reducible exact True.intro
    refine useT (hc.toT) ?_; try with_reducible exact True.intro
    exact (fitK [] [])
  | true =>
    rw [hP] at hc
    obtain ⟨n, hn, n2, n6, hg, hlen, hl9, hok⟩ := pants_facts hP
    by_cases he : 0 ≤ e ∧ e ≤ (ll.length : Int) - 1
    · obtain ⟨e, rfl⟩ : ∃ e' : Nat, e = e' := ⟨e.toNat, by omega⟩
      obtain ⟨r1, r2, r3, r4⟩ := rowOk_facts (hok e (by omega))
      have ql : List.length (rdT (.list (.int .i64)) ll (e : Int)) = (rdR ll e).length := rfl; have q0 : @Eq Int (rdT (.int .i64) (rdT (.list (.int .i64)) ll (e : Int)) 0) (rd (rdR ll e) 0) := rfl; have q1 : @Eq Int (rdT (.int .i64) (rdT (.list (.int .i64)) ll (e : Int)) 1) (rd (rdR ll e) 1) := rfl; have qlo : List.length (rdT (.list (.int .i64)) ll (((e : Int).toNat : Nat) : Int)) = (rdR ll e).length := rfl; have q0o : @Eq Int (rdT (.int .i64) (rdT (.list (.int .i64)) ll (((e : Int).toNat : Nat) : Int)) 0) (rd (rdR ll e) 0) := rfl; have q1o : @Eq Int (rdT (.int .i64) (rdT (.list (.int .i64)) ll (((e : Int).toNat : Nat) : Int)) 1) (rd (rdR ll e) 1) := rfl
      by_cases h2 : rd (rdR ll e) 0 = rd (rdR ll e) 1
      · rw [show swapOk g ll e way = false by simp [swapOk, h2]]
        refine stp ?_; try with_reducible exact True.intro
        refine useT (hc.toT) ?_; try with_reducible exact True.intro
        refine useT ((within e 0 ((ll.length : Int) - 1)).toT) ?_; try with_reducible exact True.intro
        simp only [he, and_self, decide_true]
        refine stp ?_; try with_reducible exact True.intro
        refine brT (decide_eq_true h2) ?_
        refine stp ?_; try with_reducible exact True.intro
        exact (fitK [] [])
      · by_cases hw : 0 ≤ way ∧ way ≤ 1
        · obtain ⟨way, rfl⟩ : ∃ w' : Nat, way = w' := ⟨way.toNat, by omega⟩
          rw [show swapOk g ll e way = true by simp [swapOk, hP, he, hw, h2]]
          obtain ⟨hl9, hrow, lu, lv, a1, a2, b1, b2⟩ := swp_facts (way := way) hP (by omega : e < ll.length) h2 (by omega)
          have hr : ∀ j : Nat, j < ll.length → (rdR ll j).length = 2 := fun j hj => hrow _ (by simp [rdR, hj])
          refine stp ?_; try with_reducible exact True.intro
          refine useT (hc.toT) ?_; try with_reducible exact True.intro
          refine useT ((within e 0 ((ll.length : Int) - 1)).toT) ?_; try with_reducible exact True.intro
          simp only [he, and_self, decide_true]
          refine stp ?_; try with_reducible exact True.intro
          refine brF (decide_eq_false h2) ?_
          refine stp ?_; try with_reducible exact True.intro
          refine useT ((within way 0 1).toT) ?_; try with_reducible exact True.intro
          simp only [hw, and_self, decide_true]
          refine stp ?_; try with_reducible exact True.intro
          refine .inr ⟨_, _, _, otherEnds ll (rd (rdR ll e) 0) e hl9 hr, by repeat (first | exact trivial | refine ⟨by first | exact rfl | exact trivial | exact ⟨_, rfl, rfl⟩ | exact ⟨_, _, rfl, by first | (simp; done) | (simp; omega), by first | (simp; done) | (simp [List.take_of_length_le]; done) | (rw [List.drop_zero]; exact List.take_of_length_le (by first | omega | (simp; omega))) | (simp [List.take_of_length_le]; omega)⟩ | exact ⟨_, rfl, by first | (simp; done) | (simp; omega), by first | (simp; done) | (simp [List.take_of_length_le]; done) | (rw [List.drop_zero]; exact List.take_of_length_le (by first | omega | (simp; omega))) | (simp [List.take_of_length_le]; omega)⟩, ?_⟩), rfl, rfl, by first | exact ⟨rfl, trivial⟩ | decide | (simp [okOs, okO]; done) | (simp [okOs, okO, okWs, okW, most]; done) | (simp [okOs, okO, okWs, okW, most]; omega), ?_⟩; refine stp ?_; try with_reducible exact True.intro
          refine .inr ⟨_, _, _, otherEnds ll (rd (rdR ll e) 1) e hl9 hr, by repeat (first | exact trivial | refine ⟨by first | exact rfl | exact trivial | exact ⟨_, rfl, rfl⟩ | exact ⟨_, _, rfl, by first | (simp; done) | (simp; omega), by first | (simp; done) | (simp [List.take_of_length_le]; done) | (rw [List.drop_zero]; exact List.take_of_length_le (by first | omega | (simp; omega))) | (simp [List.take_of_length_le]; omega)⟩ | exact ⟨_, rfl, by first | (simp; done) | (simp; omega), by first | (simp; done) | (simp [List.take_of_length_le]; done) | (rw [List.drop_zero]; exact List.take_of_length_le (by first | omega | (simp; omega))) | (simp [List.take_of_length_le]; omega)⟩, ?_⟩), rfl, rfl, by first | exact ⟨rfl, trivial⟩ | decide | (simp [okOs, okO]; done) | (simp [okOs, okO, okWs, okW, most]; done) | (simp [okOs, okO, okWs, okW, most]; omega), ?_⟩; refine stp ?_; try with_reducible exact True.intro
          have hA : @Eq (Int × Int × Unit) (rdT (.pair (.int .i64) (.pair (.int .i64) .unit)) (List.map agE (ends ll (rd (rdR ll e) 0) e ll.length)) ((Int.toNat 1 : Nat) : Int)) (agE (endA ll e)) := map_agE (by omega)
          have hB : @Eq (Int × Int × Unit) (rdT (.pair (.int .i64) (.pair (.int .i64) .unit)) (List.map agE (ends ll (rd (rdR ll e) 1) e ll.length)) ((Int.toNat (way : Int) : Nat) : Int)) (agE (endB ll e way)) := map_agE (by omega)
          simp only [hA, hB, agE]
          have hswp : swp ll e way = (setE (setE ll (endA ll e) (rd (rdR ll e) 1)) (endB ll e way) (rd (rdR ll e) 0)).map normE := rfl
          rw [show ((e : Int).toNat) = e from rfl, show ((way : Int).toNat) = way from rfl, hswp]
          generalize endA ll e = a at *
          generalize endB ll e way = b at *
          have hrl : ∀ r ∈ ll, (r.length : Int) ≤ 274877906944 := fun r hr => by have := hrow r hr; omega
          refine useT (copyRows ll (by omega) hrl) ?_; try with_reducible exact True.intro
          have hga : (ll.getD ((a.1 : Nat) : Int).toNat []).length = 2 := hrow _ (getD_in a1)
          have hna : ∀ {p : Prop}, ll.getD ((a.1 : Nat) : Int).toNat [] = [] → p := fun he => by rw [he] at hga; cases hga
          have hL1 := rowLen_setE (x := rd (rdR ll e) 1) hrow a1
          have hL1l := setE_length ll a (rd (rdR ll e) 1)
          have hgb : ((setE ll a (rd (rdR ll e) 1)).getD ((b.1 : Nat) : Int).toNat []).length = 2 := hL1 _ (getD_in (by omega))
          refine .inr ⟨by first | rfl | trivial, by omega, ⟨fun he => hna he, ?_⟩⟩
          refine stp ?_; try with_reducible exact True.intro
          have hset : List.set ll ((a.1 : Nat) : Int).toNat (List.set (ll.getD ((a.1 : Nat) : Int).toNat []) ((a.2 : Nat) : Int).toNat (rdT (.int .i64) (rdT (.list (.int .i64)) ll (e : Int)) 1)) = setE ll a (rd (rdR ll e) 1) := rfl
          refine .inr ⟨_, rfl, rfl, by simp, by simp, ?_⟩
          rw [hset]
          generalize setE ll a (rd (rdR ll e) 1) = L1 at *
          refine ⟨by simp; omega, ⟨fun he => absurd hgb (by rw [he]; decide), ?_⟩⟩
          refine stp ?_; try with_reducible exact True.intro
          have hL2 := rowLen_setE (x := rd (rdR ll e) 0) hL1 (by omega : b.1 < L1.length)
          have hL2l := setE_length L1 b (rd (rdR ll e) 0)
          have hset2 : L1.set ((b.1 : Nat) : Int).toNat ((L1.getD ((b.1 : Nat) : Int).toNat []).set ((b.2 : Nat) : Int).toNat (rdT (.int .i64) (rdT (.list (.int .i64)) ll (e : Int)) 0)) = setE L1 b (rd (rdR ll e) 0) := rfl
          generalize hLL : setE L1 b (rd (rdR ll e) 0) = L2 at *
          refine ⟨Nat, fun k => k ≤ L2.length, fun k => L2.length - k, fun k => [(14, .own 0 0 ll.length), (94, .own 0 0 ll.length), (95, .i ll.length), (96, .i k)], fun k => [.arr (.list (.int .i64)) ((L2.take k).map normE ++ L2.drop k) true], ⟨0, ⟨.jn 4 ⟨Nat.zero_le _, _, rfl, rfl, by simp, by simp, rfl⟩ (.frz []), [4], ⟨rfl, rfl, rfl, rfl, trivial⟩, ⟨?_, trivial⟩, by decide, rfl, rfl, rfl⟩, Nat.zero_le _⟩, fun k hk => ?_⟩
          · show some (Obj.arr (.list (.int .i64)) (L1.set ((b.1 : Nat) : Int).toNat ((L1.getD ((b.1 : Nat) : Int).toNat []).set ((b.2 : Nat) : Int).toNat (rdT (.int .i64) (rdT (.list (.int .i64)) ll (e : Int)) 0))) true) = _
            rw [hset2]
            simp [Obj.ren]
          dsimp only at hk ⊢
          have hlen : ((L2.take k).map normE ++ L2.drop k).length = ll.length := by simp; omega
          refine stp ?_; try with_reducible exact True.intro
          refine Br.mk (fun h2 => ?_) (fun h2 => ?_) <;> simp [-Int.ofNat_toNat] at h2
          · have hg : ((L2.take k).map normE ++ L2.drop k).getD (k : Int).toNat [] = rdR L2 k := by
              show ((L2.take k).map normE ++ L2.drop k).getD k [] = _
              rw [drop_consR (by omega), List.getD_eq_getElem?_getD, List.getElem?_append_right (by simp; omega)]
              simp [show k - min k L2.length = 0 by omega]
            have hg2 : (rdR L2 k).length = 2 := hL2 _ (by simp [rdR, show k < L2.length by omega])
            refine stp ?_; try with_reducible exact True.intro
            refine .inr ⟨by first | rfl | trivial, by omega, ⟨fun he => absurd hg2 (by rw [← hg, he]; decide), ?_⟩⟩
            simp only [hg]
            refine stp ?_; try with_reducible exact True.intro
            refine .inr ⟨_, _, _, pair (rd (rdR L2 k) 0) (rd (rdR L2 k) 1), by repeat (first | exact trivial | refine ⟨by first | exact rfl | exact trivial | exact ⟨_, rfl, rfl⟩ | exact ⟨_, _, rfl, by first | (simp; done) | (simp; omega), by first | (simp; done) | (simp [List.take_of_length_le]; done) | (rw [List.drop_zero]; exact List.take_of_length_le (by first | omega | (simp; omega))) | (simp [List.take_of_length_le]; omega)⟩ | exact ⟨_, rfl, by first | (simp; done) | (simp; omega), by first | (simp; done) | (simp [List.take_of_length_le]; done) | (rw [List.drop_zero]; exact List.take_of_length_le (by first | omega | (simp; omega))) | (simp [List.take_of_length_le]; omega)⟩, ?_⟩), rfl, rfl, by first | exact ⟨rfl, trivial⟩ | decide | (simp [okOs, okO]; done) | (simp [okOs, okO, okWs, okW, most]; done) | (simp [okOs, okO, okWs, okW, most]; omega), ?_⟩; refine stp ?_; try with_reducible exact True.intro
            have hset3 : ((L2.take k).map normE ++ L2.drop k).set (k : Int).toNat (normE (rdR L2 k)) = (L2.take (k + 1)).map normE ++ L2.drop (k + 1) := by
              show ((L2.take k).map normE ++ L2.drop k).set k (normE (rdR L2 k)) = _
              rw [take_succR (by omega), drop_consR (by omega), List.map_append, List.set_append_right _ _ (by simp; omega)]
              simp [show k - min k L2.length = 0 by omega]
            refine ⟨k + 1, ⟨.frz [], [0], ⟨rfl, rfl, rfl, rfl, trivial⟩, ⟨?_, trivial⟩, by decide, rfl, rfl, rfl⟩, by first | ((try dsimp only); omega) | (simp; omega), by first | ((try dsimp only); omega) | (simp; omega)⟩
            rw [← hset3]
            rfl
          · obtain rfl : k = L2.length := by omega
            refine stp ?_; try with_reducible exact True.intro
            exact (fitK [] [0])
        · rw [show swapOk g ll e way = false by simp only [swapOk, hw, decide_false, Bool.false_and, Bool.and_false]]
          refine stp ?_; try with_reducible exact True.intro
          refine useT (hc.toT) ?_; try with_reducible exact True.intro
          refine useT ((within e 0 ((ll.length : Int) - 1)).toT) ?_; try with_reducible exact True.intro
          simp only [he, and_self, decide_true]
          refine stp ?_; try with_reducible exact True.intro
          refine brF (decide_eq_false h2) ?_
          refine stp ?_; try with_reducible exact True.intro
          refine useT ((within way 0 1).toT) ?_; try with_reducible exact True.intro
          simp only [hw, decide_false]
          refine stp ?_; try with_reducible exact True.intro
          exact (fitK [] [])
    · rw [show swapOk g ll e way = false by simp only [swapOk, he, decide_false, Bool.false_and, Bool.and_false]]
      refine stp ?_; try with_reducible exact True.intro
      refine useT (hc.toT) ?_; try with_reducible exact True.intro
      refine useT ((within e 0 ((ll.length : Int) - 1)).toT) ?_; try with_reducible exact True.intro
      simp only [he, decide_false]
      refine stp ?_; try with_reducible exact True.intro
      exact (fitK [] [])
end Go.Proofs.YtlglchbkenaekaaTv
end
section
open Go Go.Proofs.YtlglchbkenaekaaVe Go.Proofs.YtlglchbkenaekaaTv Go.Proofs
namespace Go.Proofs.YtlglchbkenaekaaTv
set_option maxRecDepth 8000
set_option maxHeartbeats 2000000
theorem swp_length (ll : List (List Int)) (e way : Nat) : (swp ll e way).length = ll.length := by simp [swp, swp0]
theorem swp_row (ll : List (List Int)) (e way : Nat) : ∀ r ∈ swp ll e way, r.length ≤ 2 := fun r hr => by
  obtain ⟨x, _, rfl⟩ := List.mem_map.1 hr
  simp [normE]
theorem markIntSSN (n : Int) : ConS Try.prog 20 [.nil .unit, .i n] (.i n) := by
  refine conS_of hmix hTab Try.func20 rfl rfl (by kernel_rfl) (by show 2 ≤ Try.f20.ntmps; decide) rfl ?_
  refine stp ?_; try with_reducible exact True.intro
  refine ⟨Unit, fun _ => True, fun _ => 0, fun _ => [(0, .nil .unit), (1, .i n), (5, .i 0)], fun _ => [], ⟨(), ⟨.frz [], [], ⟨rfl, rfl, rfl, trivial⟩, trivial, by decide, rfl, rfl, rfl⟩, trivial⟩, fun _ _ => ?_⟩
  refine stp ?_; try with_reducible exact True.intro
theorem heldIntSSN (n : Int) : ConS Try.prog 25 [.nil .unit, .i n] (.i n) := by
  refine conS_of hmix hTab Try.func25 rfl rfl (by kernel_rfl) (by show 2 ≤ Try.f25.ntmps; decide) rfl ?_
  refine stp ?_; try with_reducible exact True.intro
  refine ⟨Unit, fun _ => True, fun _ => 0, fun _ => [(0, .nil .unit), (1, .i n), (5, .i 0)], fun _ => [], ⟨(), ⟨.frz [], [], ⟨rfl, rfl, rfl, trivial⟩, trivial, by decide, rfl, rfl, rfl⟩, trivial⟩, fun _ _ => ?_⟩
  refine stp ?_; try with_reducible exact True.intro
theorem lawSwapEnds (g : Int) (ll : List (List Int)) (e way : Int) (hl : (ll.length : Int) ≤ 140737488355328) (hr : ∀ r ∈ ll, (r.length : Int) ≤ 140737488355328) : ConS Try.prog 5 [.i g, .ill ll, .i e, .i way] (.b true) := by
  refine conS_of hmix hTab Try.func5 rfl rfl (by kernel_rfl) (by show 4 ≤ Try.f5.ntmps; decide) rfl ?_
  refine stp ?_; try with_reducible exact True.intro
  refine useT ((szIntSS ll 1048576 (by decide) hl hr).toT) ?_; try with_reducible exact True.intro
  refine Br.mk (fun h1 => ?_) (fun h1 => ?_) <;> simp [-Int.ofNat_toNat] at h1
  · refine stp ?_; try with_reducible exact True.intro
  · obtain ⟨h2, h3⟩ := szSS_facts (Int.le_refl _) h1
    have h4 : ∀ r ∈ ll, (r.length : Int) ≤ 274877906944 := fun r hr => by have := h3 r hr; omega
    have h5 := szSS_total h1
    have hS := SwapEndsS g ll e way h2
    have hI := SwapEndsI g ll e way h2
    have hm := markIntSS ll 1 (by omega) (by omega)
    have ht0 := total_nonneg ll
    refine stp ?_; try with_reducible exact True.intro
    refine useT (toIntSS ll h2 h3) ?_; try with_reducible exact True.intro
    refine useT (hS) ?_; try with_reducible exact True.intro
    refine useT (toIntSS ll h2 h3) ?_; try with_reducible exact True.intro
    cases hP : swapOk g ll e way with
    | true =>
      have hpants : isPants g ll = true := by simp only [swapOk, Bool.and_eq_true] at hP; exact hP.1
      obtain ⟨n, hn, n2, n6, hg, hlen, hl9, hok⟩ := pants_facts hpants
      simp only [hP, if_true] at hI ⊢
      have hrl := swp_length ll e.toNat way.toNat
      have hrw := swp_row ll e.toNat way.toNat
      have htr := total_le hrw
      generalize swp ll e.toNat way.toNat = r at *
      rw [← hrl] at hI
      have htr0 := total_nonneg r
      have htr2 : total r ≤ 18 := by omega
      have hr4 : ∀ x ∈ r, (x.length : Int) ≤ 274877906944 := fun x hx => by have := hrw x hx; omega
      have hml := marksR_length 1 r
      refine stp ?_; try with_reducible exact True.intro
      refine useT (hI) ?_; try with_reducible exact True.intro
      refine useT ((eqIntSS r r (by omega) hr4).toT) ?_; try with_reducible exact True.intro
      refine Br.mk (fun h6 => ?_) (fun h6 => ?_) <;> simp [-Int.ofNat_toNat] at h6
      refine stp ?_; try with_reducible exact True.intro
      refine useT (toIntSS ll h2 h3) ?_; try with_reducible exact True.intro
      refine useT ((eqIntSS ll ll (by omega) h4).toT) ?_; try with_reducible exact True.intro
      refine Br.mk (fun h7 => ?_) (fun h7 => ?_) <;> simp [-Int.ofNat_toNat] at h7
      refine stp ?_; try with_reducible exact True.intro
      refine useI [2] (hm) ?_; try with_reducible exact True.intro
      refine brF (by simp; omega) ?_
      refine stp ?_; try with_reducible exact True.intro
      refine useT ((eqIntSS r r (by omega) hr4).toT) ?_; try with_reducible exact True.intro
      refine Br.mk (fun h8 => ?_) (fun h8 => ?_) <;> simp [-Int.ofNat_toNat] at h8
      refine stp ?_; try with_reducible exact True.intro
      refine useI [3] (markIntSS r 1 (by omega) (by omega)) ?_; try with_reducible exact True.intro
      refine useT ((heldIntSS r 1 (by omega) (by omega)).toT) ?_; try with_reducible exact True.intro
      refine brF (by simp; omega) ?_
      refine stp ?_; try with_reducible exact True.intro
      refine Br.mk (fun h9 => ?_) (fun h9 => ?_) <;> simp [-Int.ofNat_toNat] at h9
      refine stp ?_; try with_reducible exact True.intro
      refine useT (toIntSS ll h2 h3) ?_; try with_reducible exact True.intro
      refine useT (hI) ?_; try with_reducible exact True.intro
      refine useT ((eqIntSS r r (by omega) hr4).toT) ?_; try with_reducible exact True.intro
      refine Br.mk (fun h10 => ?_) (fun h10 => ?_) <;> simp [-Int.ofNat_toNat] at h10
      refine stp ?_; try with_reducible exact True.intro
      refine useT ((heldIntSS r 1 (by omega) (by omega)).toT) ?_; try with_reducible exact True.intro
      refine brF (by simp; omega) ?_
      refine stp ?_; try with_reducible exact True.intro
      refine Br.mk (fun h11 => ?_) (fun h11 => ?_) <;> simp [-Int.ofNat_toNat] at h11
      refine stp ?_; try with_reducible exact True.intro
    | false =>
      simp only [hP, Bool.false_eq_true, if_false] at hI ⊢
      refine stp ?_; try with_reducible exact True.intro
      refine useT (hI) ?_; try with_reducible exact True.intro
      refine useT ((eqIntSS [] [] (by simp) (by simp)).toT) ?_; try with_reducible exact True.intro
      refine useT (toIntSS ll h2 h3) ?_; try with_reducible exact True.intro
      refine useT ((eqIntSS ll ll (by omega) h4).toT) ?_; try with_reducible exact True.intro
      refine Br.mk (fun h7 => ?_) (fun h7 => ?_) <;> simp [-Int.ofNat_toNat] at h7
      refine stp ?_; try with_reducible exact True.intro
      refine useI [2] (hm) ?_; try with_reducible exact True.intro
      refine brF (by simp; omega) ?_
      refine stp ?_; try with_reducible exact True.intro
      refine useT ((eqIntSS [] [] (by simp) (by simp)).toT) ?_; try with_reducible exact True.intro
      refine useT ((markIntSSN 1).toT) ?_; try with_reducible exact True.intro
      refine useT ((heldIntSSN 1).toT) ?_; try with_reducible exact True.intro
      refine useT (toIntSS ll h2 h3) ?_; try with_reducible exact True.intro
      refine useT (hI) ?_; try with_reducible exact True.intro
      refine useT ((eqIntSS [] [] (by simp) (by simp)).toT) ?_; try with_reducible exact True.intro
      refine useT ((heldIntSSN 1).toT) ?_; try with_reducible exact True.intro
end Go.Proofs.YtlglchbkenaekaaTv
end
section
open Go Go.Proofs.YtlglchbkenaekaaVe Go.Proofs.YtlglchbkenaekaaTv Go.Proofs
namespace Go.Proofs.YtlglchbkenaekaaTv
set_option maxRecDepth 8000
set_option maxHeartbeats 2000000
theorem leastF_facts (ll ps : List (List Int)) : ∀ i, 1 ≤ i → i ≤ ps.length → (leastF ll ps i).length = ll.length ∧ Prs (leastF ll ps i) := fun i => by
  induction i with
  | zero => intro h; omega
  | succ i ih =>
    intro h1 h2
    have hr := fun p => renF_facts (ll := ll) (names := p) ll.length (Nat.le_refl _)
    by_cases hi : 1 ≤ i
    · rw [leastF_succ h2 hi]
      split
      · exact hr _
      · exact ih hi (by omega)
    · obtain rfl : i = 0 := by omega
      unfold leastF
      rw [show ((ps.take (0 + 1)).drop 1) = [] from List.drop_eq_nil_of_le (by simp; omega)]
      exact hr _
theorem leastP_facts {g : Int} {ll : List (List Int)} (h : isPants g ll = true) : (leastP g ll).length = ll.length ∧ Prs (leastP g ll) := by
  obtain ⟨n, hn, _, hn6, _⟩ := pants_facts h
  exact leastF_facts _ _ _ ((allP_facts _).2 (by omega)).2 (Nat.le_refl _)
theorem lawLeastPants (g : Int) (ll : List (List Int)) (hl : (ll.length : Int) ≤ 140737488355328) (hr : ∀ r ∈ ll, (r.length : Int) ≤ 140737488355328) : ConS Try.prog 6 [.i g, .ill ll] (.b true) := by
  refine conS_of hmix hTab Try.func6 rfl rfl (by kernel_rfl) (by show 2 ≤ Try.f6.ntmps; decide) rfl ?_
  refine stp ?_; try with_reducible exact True.intro
  refine useT ((szIntSS ll 1048576 (by decide) hl hr).toT) ?_; try with_reducible exact True.intro
  refine Br.mk (fun h1 => ?_) (fun h1 => ?_) <;> simp [-Int.ofNat_toNat] at h1
  · refine stp ?_; try with_reducible exact True.intro
  · obtain ⟨h2, h3⟩ := szSS_facts (Int.le_refl _) h1
    have h4 : ∀ r ∈ ll, (r.length : Int) ≤ 274877906944 := fun r hr => by have := h3 r hr; omega
    have h5 := szSS_total h1
    have hm := markIntSS ll 1 (by omega) (by omega)
    have ht0 := total_nonneg ll
    refine stp ?_; try with_reducible exact True.intro
    cases hP : isPants g ll with
    | true =>
      have hS := LeastPantsS h2 hP
      have hI := LeastPantsI h2 hP
      obtain ⟨n, hn, n2, n6, hg, hlen, hl9, hok⟩ := pants_facts hP
      obtain ⟨hrl, hrw0⟩ := leastP_facts hP
      have hrw : ∀ r ∈ leastP g ll, r.length ≤ 2 := fun r hr => Nat.le_of_eq (hrw0 r hr)
      have htr := total_le hrw
      change ConT _ _ _ _ [.frz (.list (.int .i64)) (leastP g ll)] at hS
      generalize leastP g ll = r at *
      rw [← hrl] at hI hS
      have htr0 := total_nonneg r
      have htr2 : total r ≤ 18 := by omega
      have hr4 : ∀ x ∈ r, (x.length : Int) ≤ 274877906944 := fun x hx => by have := hrw x hx; omega
      have hml := marksR_length 1 r
      refine useT (toIntSS ll h2 h3) ?_; try with_reducible exact True.intro
      refine useT (hS) ?_; try with_reducible exact True.intro
      refine useT (toIntSS ll h2 h3) ?_; try with_reducible exact True.intro
      refine useT (hI) ?_; try with_reducible exact True.intro
      refine useT ((eqIntSS r r (by omega) hr4).toT) ?_; try with_reducible exact True.intro
      refine Br.mk (fun h6 => ?_) (fun h6 => ?_) <;> simp [-Int.ofNat_toNat] at h6
      refine stp ?_; try with_reducible exact True.intro
      refine useT (toIntSS ll h2 h3) ?_; try with_reducible exact True.intro
      refine useT ((eqIntSS ll ll (by omega) h4).toT) ?_; try with_reducible exact True.intro
      refine Br.mk (fun h7 => ?_) (fun h7 => ?_) <;> simp [-Int.ofNat_toNat] at h7
      refine stp ?_; try with_reducible exact True.intro
      refine useI [2] (hm) ?_; try with_reducible exact True.intro
      refine brF (by simp; omega) ?_
      refine stp ?_; try with_reducible exact True.intro
      refine useT ((eqIntSS r r (by omega) hr4).toT) ?_; try with_reducible exact True.intro
      refine Br.mk (fun h8 => ?_) (fun h8 => ?_) <;> simp [-Int.ofNat_toNat] at h8
      refine stp ?_; try with_reducible exact True.intro
      refine useI [3] (markIntSS r 1 (by omega) (by omega)) ?_; try with_reducible exact True.intro
      refine useT ((heldIntSS r 1 (by omega) (by omega)).toT) ?_; try with_reducible exact True.intro
      refine brF (by simp; omega) ?_
      refine stp ?_; try with_reducible exact True.intro
      refine Br.mk (fun h9 => ?_) (fun h9 => ?_) <;> simp [-Int.ofNat_toNat] at h9
      refine stp ?_; try with_reducible exact True.intro
      refine useT (toIntSS ll h2 h3) ?_; try with_reducible exact True.intro
      refine useT (hI) ?_; try with_reducible exact True.intro
      refine useT ((eqIntSS r r (by omega) hr4).toT) ?_; try with_reducible exact True.intro
      refine Br.mk (fun h10 => ?_) (fun h10 => ?_) <;> simp [-Int.ofNat_toNat] at h10
      refine stp ?_; try with_reducible exact True.intro
      refine useT ((heldIntSS r 1 (by omega) (by omega)).toT) ?_; try with_reducible exact True.intro
      refine brF (by simp; omega) ?_
      refine stp ?_; try with_reducible exact True.intro
      refine Br.mk (fun h11 => ?_) (fun h11 => ?_) <;> simp [-Int.ofNat_toNat] at h11
      refine stp ?_; try with_reducible exact True.intro
    | false =>
      refine useT (toIntSS ll h2 h3) ?_; try with_reducible exact True.intro
      refine useT (LeastPantsS0 h2 hP) ?_; try with_reducible exact True.intro
      refine useT (toIntSS ll h2 h3) ?_; try with_reducible exact True.intro
      refine useT (LeastPantsI0 h2 hP) ?_; try with_reducible exact True.intro
      refine useT ((eqIntSS [] [] (by simp) (by simp)).toT) ?_; try with_reducible exact True.intro
      refine useT (toIntSS ll h2 h3) ?_; try with_reducible exact True.intro
      refine useT ((eqIntSS ll ll (by omega) h4).toT) ?_; try with_reducible exact True.intro
      refine Br.mk (fun h7 => ?_) (fun h7 => ?_) <;> simp [-Int.ofNat_toNat] at h7
      refine stp ?_; try with_reducible exact True.intro
      refine useI [2] (hm) ?_; try with_reducible exact True.intro
      refine brF (by simp; omega) ?_
      refine stp ?_; try with_reducible exact True.intro
      refine useT ((eqIntSS [] [] (by simp) (by simp)).toT) ?_; try with_reducible exact True.intro
      refine useT ((markIntSSN 1).toT) ?_; try with_reducible exact True.intro
      refine useT ((heldIntSSN 1).toT) ?_; try with_reducible exact True.intro
      refine useT (toIntSS ll h2 h3) ?_; try with_reducible exact True.intro
      refine useT (LeastPantsI0 h2 hP) ?_; try with_reducible exact True.intro
      refine useT ((eqIntSS [] [] (by simp) (by simp)).toT) ?_; try with_reducible exact True.intro
      refine useT ((heldIntSSN 1).toT) ?_; try with_reducible exact True.intro
end Go.Proofs.YtlglchbkenaekaaTv
end
