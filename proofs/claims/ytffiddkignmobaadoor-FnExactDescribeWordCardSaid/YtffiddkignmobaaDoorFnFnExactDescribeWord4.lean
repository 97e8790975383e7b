/- What functions of the program give: each contract holds for all arguments that its own sentence names. -/
import Derived.Test.YtffiddkignmobaaDoorFnFnExactDescribeWord3
set_option linter.unusedVariables false
set_option linter.unusedSimpArgs false
section
open Go Go.Proofs.YtffiddkignmobaaDoorVe Go.Proofs.YtffiddkignmobaaDoorTv Go.Proofs
namespace Go.Proofs.YtffiddkignmobaaDoorTv
set_option maxRecDepth 8000
set_option maxHeartbeats 2000000
theorem core_in {w : List Int} {x : Int} (h : x ∈ Fg.core w) : x ∈ w := by
  have key : ∀ (n : Nat) (u : List Int), ∀ x ∈ Fg.strip n u, x ∈ u := by
    intro n
    induction n with
    | zero => intro u x h; exact h
    | succ n ih =>
      intro u x hx
      rw [Fg.strip] at hx
      split at hx
      · exact List.mem_of_mem_drop ((List.dropLast_sublist _).mem (ih _ _ hx))
      · exact hx
  have h1 := key _ _ x h
  rw [← redL_red] at h1
  exact redP_mem (Q := fun x => x ∈ w) (fun _ h => h) w.length (Nat.le_refl _) x (List.mem_of_mem_take h1)
theorem core_word {w : List Int} (hw : wordOk w = true) : wordOk (Fg.core w) = true := by
  obtain ⟨h1, h2⟩ := word_let hw
  simp only [wordOk, Bool.and_eq_true, decide_eq_true_eq, List.all_eq_true]
  exact ⟨fun x hx => h2 x (core_in hx), (core_len hw).1⟩
def yesM (b : Bool) : ByteArray := if b = true then ⟨#[121, 101, 115]⟩ else ⟨#[110, 111]⟩
theorem YesTextI (b : Bool) : ConS Tryd.prog 68 [.b b] (.s (yesM b)) := by
  refine conS_of hmix hTab Tryd.func68 rfl rfl (by kernel_rfl) (by show 1 ≤ Tryd.f68.ntmps; decide) rfl ?_
  cases b <;> (refine stp ?_; try with_reducible exact True.intro) <;> rfl
theorem YesTextS (b : Bool) : ConS Tryd.prog 60 [.b b] (.s (yesM b)) := by
  refine conS_of hmix hTab Tryd.func60 rfl rfl (by kernel_rfl) (by show 1 ≤ Tryd.f60.ntmps; decide) rfl ?_
  cases b <;> (refine stp ?_; try with_reducible exact True.intro) <;> rfl
theorem yes_size (b : Bool) : (yesM b).size ≤ 3 := by cases b <;> decide
def dwT (c s y k : ByteArray) : ByteArray := ⟨#[99, 111, 114, 101, 32]⟩ ++ c ++ ⟨#[32, 115, 117, 109, 115, 32]⟩ ++ s ++ ⟨#[32, 115, 105, 109, 112, 108, 101, 32]⟩ ++ y ++ ⟨#[32, 112, 111, 119, 101, 114, 32]⟩ ++ k
theorem dwT_joi (c s y k : ByteArray) : joi [⟨#[99, 111, 114, 101]⟩, c, ⟨#[115, 117, 109, 115]⟩, s, ⟨#[115, 105, 109, 112, 108, 101]⟩, y, ⟨#[112, 111, 119, 101, 114]⟩, k] ⟨#[32]⟩ = dwT c s y k := by
  simp only [joi_cons, joi_one, dwT]
  apply ByteArray.ext
  apply Array.toList_inj.1
  simp [ByteArray.data_append]
def dwM (w : List Int) : ByteArray := if cvOk w = true then dwT (wtx (Fg.core w)) (nt ((lsM w).take 2)) (yesM (simM w)) (ito (kM w)) else ⟨#[]⟩
theorem wtx_size {w : List Int} (h : w.length ≤ 24) : (wtx w).size ≤ 24 := by
  unfold wtx
  split
  · decide
  · rw [wtM_size]; exact h
theorem kM_le (w : List Int) (hw : wordOk w = true) : kM w ≤ 24 := by
  unfold kM
  split
  · omega
  · exact Nat.le_trans (Nat.div_le_self _ _) (core_len hw).1
theorem ls_two64 {w : List Int} (hw : wordOk w = true) : In64 ((lsM w).take 2) := fun x hx => by
  obtain ⟨hl, hq⟩ := word_let hw
  have hb := lsM_bd w hq w.length (Nat.le_refl _)
  rw [List.take_length] at hb
  obtain ⟨i, hi⟩ := List.mem_iff_getElem?.1 (List.mem_of_mem_take hx)
  have := hb (i : Int)
  unfold rd at this
  rw [List.getD, Int.toNat_natCast, hi] at this
  simp only [Option.getD_some] at this
  omega
theorem DescribeWordI (w : List Int) (hwl : (w.length : Int) ≤ 1048576) : ConS Tryd.prog 17 [.il w] (.s (dwM w)) := by
  have hi := isCurve w (by omega)
  unfold dwM
  cases hc : cvOk w with
  | false =>
    rw [hc] at hi
    refine conS_of hmix hTab Tryd.func17 rfl rfl (by kernel_rfl) (by show 1 ≤ Tryd.f17.ntmps; decide) rfl ?_
    refine stp ?_; try with_reducible exact True.intro
    refine useT (hi.toT) ?_; try with_reducible exact True.intro
    rfl
  | true =>
    rw [hc] at hi
    rw [if_pos rfl]
    have hw := cv_word hc
    have w1 := CoreWordI hw
    have cw := core_word hw
    have w2 := WordTextI cw
    have w3 := LetterSumsI hw
    have h64 := ls_two64 hw
    have hl2 : ((lsM w).take 2).length = 2 := by rw [List.length_take, lsM_len]; rfl
    have w4 := NumbersTextI ((lsM w).take 2) (by omega) h64
    have w5 := IsSimpleWordI w (by omega)
    have w6 := YesTextI (simM w)
    have hk24 := kM_le w hw
    have w7 := FormatIntI (kM w) (by omega) (by omega)
    have z1 := wtx_size (core_len hw).1
    have z2 : (nt ((lsM w).take 2)).size ≤ 46 := by
      have := nt_size h64
      unfold nt
      split
      · decide
      · omega
    have z3 := yes_size (simM w)
    have z4 := ito_s (kM w) (by omega)
    have hsl := lsM_len w
    by_cases h0 : Fg.core w = []
    · have w0 : ConT Tryd.prog 63 [.il w] (.tup [.nil .unit, .i (kM w : Nat)]) [] := by
        have hk : kM w = 0 := by unfold kM; rw [if_pos h0]
        rw [hk]; exact PowerOfI0 hw h0
      generalize kM w = kk at *
      refine conS_of hmix hTab Tryd.func17 rfl rfl (by kernel_rfl) (by show 1 ≤ Tryd.f17.ntmps; decide) rfl ?_
      refine stp ?_; try with_reducible exact True.intro
      refine useT (hi.toT) ?_; try with_reducible exact True.intro
      refine useT (w0) ?_; try with_reducible exact True.intro
      refine useT (w1) ?_; try with_reducible exact True.intro
      refine useT (w2.toT) ?_; try with_reducible exact True.intro
      refine useT (w3) ?_; try with_reducible exact True.intro
      refine useT w4.toT ?_ ⟨⟨_, _, rfl, by rw [hsl]; decide, rfl⟩, trivial⟩
      refine useT (w5.toT) ?_; try with_reducible exact True.intro
      refine useT (w6.toT) ?_; try with_reducible exact True.intro
      refine useT (w7.toT) ?_; try with_reducible exact True.intro
      refine useT ((JoinI [⟨#[99, 111, 114, 101]⟩, wtx (Fg.core w), ⟨#[115, 117, 109, 115]⟩, nt ((lsM w).take 2), ⟨#[115, 105, 109, 112, 108, 101]⟩, yesM (simM w), ⟨#[112, 111, 119, 101, 114]⟩, ito kk] ⟨#[32]⟩ (by rw [dwT_joi]; unfold dwT; simp only [ByteArray.size_append, szA, List.size_toArray, List.length_cons, List.length_nil]; omega)).toT) ?_; try with_reducible exact True.intro
      rw [dwT_joi]
    · have w0 : ConT Tryd.prog 63 [.il w] (.tup [.own 0 0 (prN (Fg.core w)), .i (kM w : Nat)]) [.arr (.int .i64) ((Fg.core w).take (prN (Fg.core w))) true] := by
        have hk : kM w = (Fg.core w).length / prN (Fg.core w) := by unfold kM; rw [if_neg h0]
        rw [hk]; exact PowerOfI hw h0
      generalize kM w = kk at *
      refine conS_of hmix hTab Tryd.func17 rfl rfl (by kernel_rfl) (by show 1 ≤ Tryd.f17.ntmps; decide) rfl ?_
      refine stp ?_; try with_reducible exact True.intro
      refine useT (hi.toT) ?_; try with_reducible exact True.intro
      refine useT (w0) ?_; try with_reducible exact True.intro
      refine useT (w1) ?_; try with_reducible exact True.intro
      refine useT (w2.toT) ?_; try with_reducible exact True.intro
      refine useT (w3) ?_; try with_reducible exact True.intro
      refine useT w4.toT ?_ ⟨⟨_, _, rfl, by rw [hsl]; decide, rfl⟩, trivial⟩
      refine useT (w5.toT) ?_; try with_reducible exact True.intro
      refine useT (w6.toT) ?_; try with_reducible exact True.intro
      refine useT (w7.toT) ?_; try with_reducible exact True.intro
      refine useT ((JoinI [⟨#[99, 111, 114, 101]⟩, wtx (Fg.core w), ⟨#[115, 117, 109, 115]⟩, nt ((lsM w).take 2), ⟨#[115, 105, 109, 112, 108, 101]⟩, yesM (simM w), ⟨#[112, 111, 119, 101, 114]⟩, ito kk] ⟨#[32]⟩ (by rw [dwT_joi]; unfold dwT; simp only [ByteArray.size_append, szA, List.size_toArray, List.length_cons, List.length_nil]; omega)).toT) ?_; try with_reducible exact True.intro
      rw [dwT_joi]
theorem DescribeWordS (w : List Int) (hwl : (w.length : Int) ≤ 1048576) : ConS Tryd.prog 16 [.il w] (.s (dwM w)) := by
  have hi := l20Fits w (by omega)
  unfold dwM
  cases hc : cvOk w with
  | false =>
    rw [hc] at hi
    refine conS_of hmix hTab Tryd.func16 rfl rfl (by kernel_rfl) (by show 1 ≤ Tryd.f16.ntmps; decide) rfl ?_
    refine stp ?_; try with_reducible exact True.intro
    refine useT (hi.toT) ?_; try with_reducible exact True.intro
    rfl
  | true =>
    rw [hc] at hi
    rw [if_pos rfl]
    have hw := cv_word hc
    have w1 := CoreWordS hw
    have cw := core_word hw
    have w2 := WordTextS cw
    have w3 := LetterSumsS hw
    have h64 := ls_two64 hw
    have hl2 : ((lsM w).take 2).length = 2 := by rw [List.length_take, lsM_len]; rfl
    have w4 := NumbersTextS ((lsM w).take 2) (by omega) h64
    have w5 := IsSimpleWordS w (by omega)
    have w6 := YesTextS (simM w)
    have hk24 := kM_le w hw
    have w7 := FormatIntS (kM w) (by omega) (by omega)
    have z1 := wtx_size (core_len hw).1
    have z2 : (nt ((lsM w).take 2)).size ≤ 46 := by
      have := nt_size h64
      unfold nt
      split
      · decide
      · omega
    have z3 := yes_size (simM w)
    have z4 := ito_s (kM w) (by omega)
    have hsl := lsM_len w
    by_cases h0 : Fg.core w = []
    · have w0 : ConT Tryd.prog 55 [.il w] (.tup [.own 0 0 0, .i (kM w : Nat)]) [.arr (.int .i64) [] true] := by
        have hk : kM w = 0 := by unfold kM; rw [if_pos h0]
        rw [hk]; exact PowerOfS0 hw h0
      generalize kM w = kk at *
      refine conS_of hmix hTab Tryd.func16 rfl rfl (by kernel_rfl) (by show 1 ≤ Tryd.f16.ntmps; decide) rfl ?_
      refine stp ?_; try with_reducible exact True.intro
      refine useT (hi.toT) ?_; try with_reducible exact True.intro
      refine useT (w0) ?_; try with_reducible exact True.intro
      refine useT (w1) ?_; try with_reducible exact True.intro
      refine useT (w2.toT) ?_; try with_reducible exact True.intro
      refine ⟨by (try simp only [ByteArray.size_append, szA, List.size_toArray, List.length_cons, List.length_nil, Nat.zero_add, Nat.reduceAdd]); omega, ?_⟩; refine stp ?_; try with_reducible exact True.intro
      refine ⟨by (try simp only [ByteArray.size_append, szA, List.size_toArray, List.length_cons, List.length_nil, Nat.zero_add, Nat.reduceAdd]); omega, ?_⟩; refine stp ?_; try with_reducible exact True.intro
      refine useT (w3) ?_; try with_reducible exact True.intro
      refine useT w4.toT ?_ ⟨⟨_, _, rfl, by rw [hsl]; decide, rfl⟩, trivial⟩
      refine ⟨by (try simp only [ByteArray.size_append, szA, List.size_toArray, List.length_cons, List.length_nil, Nat.zero_add, Nat.reduceAdd]); omega, ?_⟩; refine stp ?_; try with_reducible exact True.intro
      refine ⟨by (try simp only [ByteArray.size_append, szA, List.size_toArray, List.length_cons, List.length_nil, Nat.zero_add, Nat.reduceAdd]); omega, ?_⟩; refine stp ?_; try with_reducible exact True.intro
      refine useT (w5.toT) ?_; try with_reducible exact True.intro
      refine useT (w6.toT) ?_; try with_reducible exact True.intro
      refine ⟨by (try simp only [ByteArray.size_append, szA, List.size_toArray, List.length_cons, List.length_nil, Nat.zero_add, Nat.reduceAdd]); omega, ?_⟩; refine stp ?_; try with_reducible exact True.intro
      refine ⟨by (try simp only [ByteArray.size_append, szA, List.size_toArray, List.length_cons, List.length_nil, Nat.zero_add, Nat.reduceAdd]); omega, ?_⟩; refine stp ?_; try with_reducible exact True.intro
      refine useT (w7.toT) ?_; try with_reducible exact True.intro
      refine ⟨by (try simp only [ByteArray.size_append, szA, List.size_toArray, List.length_cons, List.length_nil, Nat.zero_add, Nat.reduceAdd]); omega, ?_⟩; refine stp ?_; try with_reducible exact True.intro
      rfl
    · have w0 : ConT Tryd.prog 55 [.il w] (.tup [.own 0 0 (prN (Fg.core w)), .i (kM w : Nat)]) [.arr (.int .i64) ((Fg.core w).take (prN (Fg.core w))) true] := by
        have hk : kM w = (Fg.core w).length / prN (Fg.core w) := by unfold kM; rw [if_neg h0]
        rw [hk]; exact PowerOfS hw h0
      generalize kM w = kk at *
      refine conS_of hmix hTab Tryd.func16 rfl rfl (by kernel_rfl) (by show 1 ≤ Tryd.f16.ntmps; decide) rfl ?_
      refine stp ?_; try with_reducible exact True.intro
      refine useT (hi.toT) ?_; try with_reducible exact True.intro
      refine useT (w0) ?_; try with_reducible exact True.intro
      refine useT (w1) ?_; try with_reducible exact True.intro
      refine useT (w2.toT) ?_; try with_reducible exact True.intro
      refine ⟨by (try simp only [ByteArray.size_append, szA, List.size_toArray, List.length_cons, List.length_nil, Nat.zero_add, Nat.reduceAdd]); omega, ?_⟩; refine stp ?_; try with_reducible exact True.intro
      refine ⟨by (try simp only [ByteArray.size_append, szA, List.size_toArray, List.length_cons, List.length_nil, Nat.zero_add, Nat.reduceAdd]); omega, ?_⟩; refine stp ?_; try with_reducible exact True.intro
      refine useT (w3) ?_; try with_reducible exact True.intro
      refine useT w4.toT ?_ ⟨⟨_, _, rfl, by rw [hsl]; decide, rfl⟩, trivial⟩
      refine ⟨by (try simp only [ByteArray.size_append, szA, List.size_toArray, List.length_cons, List.length_nil, Nat.zero_add, Nat.reduceAdd]); omega, ?_⟩; refine stp ?_; try with_reducible exact True.intro
      refine ⟨by (try simp only [ByteArray.size_append, szA, List.size_toArray, List.length_cons, List.length_nil, Nat.zero_add, Nat.reduceAdd]); omega, ?_⟩; refine stp ?_; try with_reducible exact True.intro
      refine useT (w5.toT) ?_; try with_reducible exact True.intro
      refine useT (w6.toT) ?_; try with_reducible exact True.intro
      refine ⟨by (try simp only [ByteArray.size_append, szA, List.size_toArray, List.length_cons, List.length_nil, Nat.zero_add, Nat.reduceAdd]); omega, ?_⟩; refine stp ?_; try with_reducible exact True.intro
      refine ⟨by (try simp only [ByteArray.size_append, szA, List.size_toArray, List.length_cons, List.length_nil, Nat.zero_add, Nat.reduceAdd]); omega, ?_⟩; refine stp ?_; try with_reducible exact True.intro
      refine useT (w7.toT) ?_; try with_reducible exact True.intro
      refine ⟨by (try simp only [ByteArray.size_append, szA, List.size_toArray, List.length_cons, List.length_nil, Nat.zero_add, Nat.reduceAdd]); omega, ?_⟩; refine stp ?_; try with_reducible exact True.intro
      rfl
theorem FnExactDescribeWord (w : List Int) (hn : (w.length : Int) ≤ 140737488355328) : ConS Tryd.prog 5 [.il w] (.b true) := by
  refine conS_of hmix hTab Tryd.func5 rfl rfl (by kernel_rfl) (by show 1 ≤ Tryd.f5.ntmps; decide) rfl ?_
  refine stp ?_; try with_reducible exact True.intro
  refine Br.mk (fun hz => ?_) (fun hz => ?_) <;> simp [-Int.ofNat_toNat] at hz
  · refine stp ?_; try with_reducible exact True.intro
  refine stp ?_; try with_reducible exact True.intro
  refine useT (toIntS w (by omega)) ?_; try with_reducible exact True.intro
  refine useT ((DescribeWordS w (by omega)).toT) ?_; try with_reducible exact True.intro
  refine useT (toIntS w (by omega)) ?_; try with_reducible exact True.intro
  refine useT ((DescribeWordI w (by omega)).toT) ?_; try with_reducible exact True.intro
  rw [show (!(dwM w).toList == (dwM w).toList) = false by simp]
  refine stp ?_; try with_reducible exact True.intro
  refine useT (toIntS w (by omega)) ?_; try with_reducible exact True.intro
  refine useT ((eqIntS w w (by omega)).toT) ?_; try with_reducible exact True.intro
  rw [decide_eq_true rfl]
  refine stp ?_; try with_reducible exact True.intro
end Go.Proofs.YtffiddkignmobaaDoorTv
end
