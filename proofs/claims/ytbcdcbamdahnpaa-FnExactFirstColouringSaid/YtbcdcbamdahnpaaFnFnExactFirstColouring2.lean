/- What functions of the program give: each contract holds for all arguments that its own sentence names. -/
import Derived.Test.YtbcdcbamdahnpaaFnFnExactFirstColouring1
set_option linter.unusedVariables false
set_option linter.unusedSimpArgs false
section
open Go Go.Proofs.YtbcdcbamdahnpaaVe Go.Proofs.YtbcdcbamdahnpaaTv Go.Proofs
namespace Go.Proofs.YtbcdcbamdahnpaaTv
set_option maxRecDepth 8000
set_option maxHeartbeats 2000000
theorem lawIsColouring (m c : List Int) : ConS Try.prog 3 [.il m, .il c] (.b true) := by
  refine conS_of hmix hTab Try.func3 rfl rfl (by kernel_rfl) (by show 2 ≤ Try.f3.ntmps; decide) rfl ?_
  (repeat ((conv => whnf); first | (refine And.intro (by first | omega | (dsimp only; omega) | with_reducible rfl | (simp; done) | (simp; omega) | rfl | exact .inl rfl | exact .inr rfl | (intro hq; simp at hq; done) | (show _ = _; kernel_rfl)) ?_) | (refine brT rfl ?_) | (refine brF rfl ?_) | (refine Exists.intro _ (And.intro rfl ?_)) | (refine Exists.intro _ (Exists.intro _ (And.intro rfl ?_))))); try (conv => whnf)
  refine Br.mk (fun h1 => ?_) (fun h1 => ?_) <;> simp [-Int.ofNat_toNat] at h1
  · (repeat ((conv => whnf); first | (refine And.intro (by first | omega | (dsimp only; omega) | with_reducible rfl | (simp; done) | (simp; omega) | rfl | exact .inl rfl | exact .inr rfl | (intro hq; simp at hq; done) | (show _ = _; kernel_rfl)) ?_) | (refine brT rfl ?_) | (refine brF rfl ?_) | (refine Exists.intro _ (And.intro rfl ?_)) | (refine Exists.intro _ (Exists.intro _ (And.intro rfl ?_))))); try (conv => whnf)
  · (repeat ((conv => whnf); first | (refine And.intro (by first | omega | (dsimp only; omega) | with_reducible rfl | (simp; done) | (simp; omega) | rfl | exact .inl rfl | exact .inr rfl | (intro hq; simp at hq; done) | (show _ = _; kernel_rfl)) ?_) | (refine brT rfl ?_) | (refine brF rfl ?_) | (refine Exists.intro _ (And.intro rfl ?_)) | (refine Exists.intro _ (Exists.intro _ (And.intro rfl ?_))))); try (conv => whnf)
    refine Br.mk (fun h2 => ?_) (fun h2 => ?_) <;> simp [-Int.ofNat_toNat] at h2
    · (repeat ((conv => whnf); first | (refine And.intro (by first | omega | (dsimp only; omega) | with_reducible rfl | (simp; done) | (simp; omega) | rfl | exact .inl rfl | exact .inr rfl | (intro hq; simp at hq; done) | (show _ = _; kernel_rfl)) ?_) | (refine brT rfl ?_) | (refine brF rfl ?_) | (refine Exists.intro _ (And.intro rfl ?_)) | (refine Exists.intro _ (Exists.intro _ (And.intro rfl ?_))))); try (conv => whnf)
    · (repeat ((conv => whnf); first | (refine And.intro (by first | omega | (dsimp only; omega) | with_reducible rfl | (simp; done) | (simp; omega) | rfl | exact .inl rfl | exact .inr rfl | (intro hq; simp at hq; done) | (show _ = _; kernel_rfl)) ?_) | (refine brT rfl ?_) | (refine brF rfl ?_) | (refine Exists.intro _ (And.intro rfl ?_)) | (refine Exists.intro _ (Exists.intro _ (And.intro rfl ?_))))); try (conv => whnf)
      refine .inl ⟨_, _, _, toIntS m (by omega), ⟨⟨_, rfl, rfl⟩, trivial⟩, ?_⟩
      (repeat ((conv => whnf); first | (refine And.intro (by first | omega | (dsimp only; omega) | with_reducible rfl | (simp; done) | (simp; omega) | rfl | exact .inl rfl | exact .inr rfl | (intro hq; simp at hq; done) | (show _ = _; kernel_rfl)) ?_) | (refine brT rfl ?_) | (refine brF rfl ?_) | (refine Exists.intro _ (And.intro rfl ?_)) | (refine Exists.intro _ (Exists.intro _ (And.intro rfl ?_))))); try (conv => whnf)
      refine .inl ⟨_, _, _, toIntS c (by omega), ⟨⟨_, rfl, rfl⟩, trivial⟩, ?_⟩
      (repeat ((conv => whnf); first | (refine And.intro (by first | omega | (dsimp only; omega) | with_reducible rfl | (simp; done) | (simp; omega) | rfl | exact .inl rfl | exact .inr rfl | (intro hq; simp at hq; done) | (show _ = _; kernel_rfl)) ?_) | (refine brT rfl ?_) | (refine brF rfl ?_) | (refine Exists.intro _ (And.intro rfl ?_)) | (refine Exists.intro _ (Exists.intro _ (And.intro rfl ?_))))); try (conv => whnf)
      refine .inl ⟨_, _, _, (IsColouringS m c (by omega)).toT, ⟨⟨_, _, rfl, by simp, by simp⟩, ⟨_, _, rfl, by simp, by simp⟩, trivial⟩, ?_⟩
      (repeat ((conv => whnf); first | (refine And.intro (by first | omega | (dsimp only; omega) | with_reducible rfl | (simp; done) | (simp; omega) | rfl | exact .inl rfl | exact .inr rfl | (intro hq; simp at hq; done) | (show _ = _; kernel_rfl)) ?_) | (refine brT rfl ?_) | (refine brF rfl ?_) | (refine Exists.intro _ (And.intro rfl ?_)) | (refine Exists.intro _ (Exists.intro _ (And.intro rfl ?_))))); try (conv => whnf)
      refine .inl ⟨_, _, _, toIntS m (by omega), ⟨⟨_, rfl, rfl⟩, trivial⟩, ?_⟩
      (repeat ((conv => whnf); first | (refine And.intro (by first | omega | (dsimp only; omega) | with_reducible rfl | (simp; done) | (simp; omega) | rfl | exact .inl rfl | exact .inr rfl | (intro hq; simp at hq; done) | (show _ = _; kernel_rfl)) ?_) | (refine brT rfl ?_) | (refine brF rfl ?_) | (refine Exists.intro _ (And.intro rfl ?_)) | (refine Exists.intro _ (Exists.intro _ (And.intro rfl ?_))))); try (conv => whnf)
      refine .inl ⟨_, _, _, toIntS c (by omega), ⟨⟨_, rfl, rfl⟩, trivial⟩, ?_⟩
      (repeat ((conv => whnf); first | (refine And.intro (by first | omega | (dsimp only; omega) | with_reducible rfl | (simp; done) | (simp; omega) | rfl | exact .inl rfl | exact .inr rfl | (intro hq; simp at hq; done) | (show _ = _; kernel_rfl)) ?_) | (refine brT rfl ?_) | (refine brF rfl ?_) | (refine Exists.intro _ (And.intro rfl ?_)) | (refine Exists.intro _ (Exists.intro _ (And.intro rfl ?_))))); try (conv => whnf)
      refine .inl ⟨_, _, _, (IsColouringI m c (by omega)).toT, ⟨⟨_, _, rfl, by simp, by simp⟩, ⟨_, _, rfl, by simp, by simp⟩, trivial⟩, ?_⟩
      (repeat ((conv => whnf); first | (refine And.intro (by first | omega | (dsimp only; omega) | with_reducible rfl | (simp; done) | (simp; omega) | rfl | exact .inl rfl | exact .inr rfl | (intro hq; simp at hq; done) | (show _ = _; kernel_rfl)) ?_) | (refine brT rfl ?_) | (refine brF rfl ?_) | (refine Exists.intro _ (And.intro rfl ?_)) | (refine Exists.intro _ (Exists.intro _ (And.intro rfl ?_))))); try (conv => whnf)
      refine Br.mk (fun h3 => ?_) (fun h3 => ?_) <;> simp [-Int.ofNat_toNat] at h3
      (repeat ((conv => whnf); first | (refine And.intro (by first | omega | (dsimp only; omega) | with_reducible rfl | (simp; done) | (simp; omega) | rfl | exact .inl rfl | exact .inr rfl | (intro hq; simp at hq; done) | (show _ = _; kernel_rfl)) ?_) | (refine brT rfl ?_) | (refine brF rfl ?_) | (refine Exists.intro _ (And.intro rfl ?_)) | (refine Exists.intro _ (Exists.intro _ (And.intro rfl ?_))))); try (conv => whnf)
      refine .inl ⟨_, _, _, toIntS m (by omega), ⟨⟨_, rfl, rfl⟩, trivial⟩, ?_⟩
      (repeat ((conv => whnf); first | (refine And.intro (by first | omega | (dsimp only; omega) | with_reducible rfl | (simp; done) | (simp; omega) | rfl | exact .inl rfl | exact .inr rfl | (intro hq; simp at hq; done) | (show _ = _; kernel_rfl)) ?_) | (refine brT rfl ?_) | (refine brF rfl ?_) | (refine Exists.intro _ (And.intro rfl ?_)) | (refine Exists.intro _ (Exists.intro _ (And.intro rfl ?_))))); try (conv => whnf)
      refine .inl ⟨_, _, _, (eqIntS m m (by omega)).toT, ⟨⟨_, _, rfl, by simp, by simp⟩, ⟨_, _, rfl, by simp, by simp⟩, trivial⟩, ?_⟩
      (repeat ((conv => whnf); first | (refine And.intro (by first | omega | (dsimp only; omega) | with_reducible rfl | (simp; done) | (simp; omega) | rfl | exact .inl rfl | exact .inr rfl | (intro hq; simp at hq; done) | (show _ = _; kernel_rfl)) ?_) | (refine brT rfl ?_) | (refine brF rfl ?_) | (refine Exists.intro _ (And.intro rfl ?_)) | (refine Exists.intro _ (Exists.intro _ (And.intro rfl ?_))))); try (conv => whnf)
      refine Br.mk (fun h4 => ?_) (fun h4 => ?_) <;> simp [-Int.ofNat_toNat] at h4
      (repeat ((conv => whnf); first | (refine And.intro (by first | omega | (dsimp only; omega) | with_reducible rfl | (simp; done) | (simp; omega) | rfl | exact .inl rfl | exact .inr rfl | (intro hq; simp at hq; done) | (show _ = _; kernel_rfl)) ?_) | (refine brT rfl ?_) | (refine brF rfl ?_) | (refine Exists.intro _ (And.intro rfl ?_)) | (refine Exists.intro _ (Exists.intro _ (And.intro rfl ?_))))); try (conv => whnf)
      refine .inl ⟨_, _, _, toIntS c (by omega), ⟨⟨_, rfl, rfl⟩, trivial⟩, ?_⟩
      (repeat ((conv => whnf); first | (refine And.intro (by first | omega | (dsimp only; omega) | with_reducible rfl | (simp; done) | (simp; omega) | rfl | exact .inl rfl | exact .inr rfl | (intro hq; simp at hq; done) | (show _ = _; kernel_rfl)) ?_) | (refine brT rfl ?_) | (refine brF rfl ?_) | (refine Exists.intro _ (And.intro rfl ?_)) | (refine Exists.intro _ (Exists.intro _ (And.intro rfl ?_))))); try (conv => whnf)
      refine .inl ⟨_, _, _, (eqIntS c c (by omega)).toT, ⟨⟨_, _, rfl, by simp, by simp⟩, ⟨_, _, rfl, by simp, by simp⟩, trivial⟩, ?_⟩
      (repeat ((conv => whnf); first | (refine And.intro (by first | omega | (dsimp only; omega) | with_reducible rfl | (simp; done) | (simp; omega) | rfl | exact .inl rfl | exact .inr rfl | (intro hq; simp at hq; done) | (show _ = _; kernel_rfl)) ?_) | (refine brT rfl ?_) | (refine brF rfl ?_) | (refine Exists.intro _ (And.intro rfl ?_)) | (refine Exists.intro _ (Exists.intro _ (And.intro rfl ?_))))); try (conv => whnf)
      refine Br.mk (fun h5 => ?_) (fun h5 => ?_) <;> simp [-Int.ofNat_toNat] at h5
      (repeat ((conv => whnf); first | (refine And.intro (by first | omega | (dsimp only; omega) | with_reducible rfl | (simp; done) | (simp; omega) | rfl | exact .inl rfl | exact .inr rfl | (intro hq; simp at hq; done) | (show _ = _; kernel_rfl)) ?_) | (refine brT rfl ?_) | (refine brF rfl ?_) | (refine Exists.intro _ (And.intro rfl ?_)) | (refine Exists.intro _ (Exists.intro _ (And.intro rfl ?_))))); try (conv => whnf)
end Go.Proofs.YtbcdcbamdahnpaaTv
end
section
open Go Go.Proofs.YtbcdcbamdahnpaaVe Go.Proofs.YtbcdcbamdahnpaaTv Go.Proofs
namespace Go.Proofs.YtbcdcbamdahnpaaTv
set_option maxRecDepth 8000
set_option maxHeartbeats 2000000
/-- n, n + 1, .. -/
def marks (n : Int) (k : Nat) : List Int := (List.range k).map fun i => n + (i : Nat)
@[simp] theorem marks_length (n : Int) (k : Nat) : (marks n k).length = k := by simp [marks]
theorem marks_get (n : Int) {k i : Nat} (h : i < k) : (marks n k)[i]? = some (n + i) := by simp [marks, h]
theorem markIntS (l : List Int) (n : Int) (hn : -1000000000000 ≤ n ∧ n ≤ 1000000000000) (hl : (l.length : Int) ≤ 274877906944) : ConI Try.prog 16 [.own 0 0 l.length, .i n] [.arr (.int .i64) l true] (.i (n + l.length)) [.arr (.int .i64) (marks n l.length) true] := by
  refine conI_of hmix hTab Try.func16 rfl rfl (by kernel_rfl) (by show 2 ≤ Try.f16.ntmps; decide) ?_
  (repeat ((conv => whnf); first | (refine And.intro (by first | omega | (dsimp only; omega) | with_reducible rfl | (simp; done) | (simp; omega) | rfl | exact .inl rfl | exact .inr rfl | (intro hq; simp at hq; done) | (show _ = _; kernel_rfl)) ?_) | (refine brT rfl ?_) | (refine brF rfl ?_) | (refine Exists.intro _ (And.intro rfl ?_)) | (refine Exists.intro _ (Exists.intro _ (And.intro rfl ?_))))); try (conv => whnf)
  refine ⟨Nat, fun i => i ≤ l.length, fun i => l.length - i, fun i => [(0, .own 0 0 l.length), (1, .i (n + i)), (5, .i i)], fun i => [.arr (.int .i64) ((marks n l.length).take i ++ l.drop i) true], ⟨0, ⟨.frz [], [0], ⟨rfl, by simp [V.ren, EnvV.upd, EnvV.ev, env0T], rfl, trivial⟩, ⟨rfl, trivial⟩, by decide, rfl, rfl, rfl⟩, by simp⟩, fun i hi => ?_⟩
  dsimp only at hi
  have hml := marks_length n l.length
  have hlen : ((marks n l.length).take i ++ l.drop i).length = l.length := by simp; omega
  (repeat ((conv => whnf); first | (refine And.intro (by first | omega | (dsimp only; omega) | with_reducible rfl | (simp; done) | (simp; omega) | rfl | exact .inl rfl | exact .inr rfl | (intro hq; simp at hq; done) | (show _ = _; kernel_rfl)) ?_) | (refine brT rfl ?_) | (refine brF rfl ?_) | (refine Exists.intro _ (And.intro rfl ?_)) | (refine Exists.intro _ (Exists.intro _ (And.intro rfl ?_))))); try (conv => whnf)
  refine Br.mk (fun h => ?_) (fun h => ?_) <;> simp [-Int.ofNat_toNat] at h
  · (repeat ((conv => whnf); first | (refine And.intro (by first | omega | (dsimp only; omega) | with_reducible rfl | (simp; done) | (simp; omega) | rfl | exact .inl rfl | exact .inr rfl | (intro hq; simp at hq; done) | (show _ = _; kernel_rfl)) ?_) | (refine brT rfl ?_) | (refine brF rfl ?_) | (refine Exists.intro _ (And.intro rfl ?_)) | (refine Exists.intro _ (Exists.intro _ (And.intro rfl ?_))))); try (conv => whnf)
    refine ⟨i + 1, ⟨.frz [], [0], ⟨rfl, ?_, rfl, trivial⟩, ⟨?_, trivial⟩, by decide, rfl, rfl, rfl⟩, h, by dsimp only; omega⟩
    · show V.i (n + i + 1) = V.i (n + (i + 1 : Nat))
      rw [show n + (i : Int) + 1 = n + ((i + 1 : Nat) : Int) by omega]
    · refine congrArg (fun x => some (Obj.arr (.int .i64) x true)) ?_
      have h1 : ((0 : Nat) + (i : Int).toNat) = i := by omega
      rw [h1, List.set_append_right _ _ (by simp; omega), List.take_add_one, marks_get n h]
      have h2 : i - ((marks n l.length).take i).length = 0 := by simp; omega
      rw [h2, List.drop_eq_getElem_cons h, List.set_cons_zero]
      simp
  · (repeat ((conv => whnf); first | (refine And.intro (by first | omega | (dsimp only; omega) | with_reducible rfl | (simp; done) | (simp; omega) | rfl | exact .inl rfl | exact .inr rfl | (intro hq; simp at hq; done) | (show _ = _; kernel_rfl)) ?_) | (refine brT rfl ?_) | (refine brF rfl ?_) | (refine Exists.intro _ (And.intro rfl ?_)) | (refine Exists.intro _ (Exists.intro _ (And.intro rfl ?_))))); try (conv => whnf)
    obtain rfl : i = l.length := Nat.le_antisymm hi h
    exact ⟨.frz [], [0], ⟨rfl, trivial⟩, ⟨by rw [List.take_of_length_le (by omega), List.drop_of_length_le (Nat.le_refl _), List.append_nil]; rfl, trivial⟩, by decide, rfl, rfl, rfl⟩
theorem markIntN (n : Int) : ConS Try.prog 16 [.nil .unit, .i n] (.i n) := by
  refine conS_of hmix hTab Try.func16 rfl rfl (by kernel_rfl) (by show 2 ≤ Try.f16.ntmps; decide) rfl ?_
  (repeat ((conv => whnf); first | (refine And.intro (by first | omega | (dsimp only; omega) | with_reducible rfl | (simp; done) | (simp; omega) | rfl | exact .inl rfl | exact .inr rfl | (intro hq; simp at hq; done) | (show _ = _; kernel_rfl)) ?_) | (refine brT rfl ?_) | (refine brF rfl ?_) | (refine Exists.intro _ (And.intro rfl ?_)) | (refine Exists.intro _ (Exists.intro _ (And.intro rfl ?_))))); try (conv => whnf)
  refine ⟨Unit, fun _ => True, fun _ => 0, fun _ => [(0, .nil .unit), (1, .i n), (5, .i 0)], fun _ => [], ⟨(), ⟨.frz [], [], ⟨rfl, rfl, rfl, trivial⟩, trivial, by decide, rfl, rfl, rfl⟩, trivial⟩, fun _ _ => ?_⟩
  (repeat ((conv => whnf); first | (refine And.intro (by first | omega | (dsimp only; omega) | with_reducible rfl | (simp; done) | (simp; omega) | rfl | exact .inl rfl | exact .inr rfl | (intro hq; simp at hq; done) | (show _ = _; kernel_rfl)) ?_) | (refine brT rfl ?_) | (refine brF rfl ?_) | (refine Exists.intro _ (And.intro rfl ?_)) | (refine Exists.intro _ (Exists.intro _ (And.intro rfl ?_))))); try (conv => whnf)
/-- n, n + 1, .. stand there still. -/
theorem heldIntS (n : Int) (k : Nat) (hn : 0 ≤ n ∧ n ≤ 1000000000000) (hl : (k : Int) ≤ 274877906944) : ConS Try.prog 17 [.il (marks n k), .i n] (.i (n + k)) := by
  refine conS_of hmix hTab Try.func17 rfl rfl (by kernel_rfl) (by show 2 ≤ Try.f17.ntmps; decide) rfl ?_
  have hml := marks_length n k
  (repeat ((conv => whnf); first | (refine And.intro (by first | omega | (dsimp only; omega) | with_reducible rfl | (simp; done) | (simp; omega) | rfl | exact .inl rfl | exact .inr rfl | (intro hq; simp at hq; done) | (show _ = _; kernel_rfl)) ?_) | (refine brT rfl ?_) | (refine brF rfl ?_) | (refine Exists.intro _ (And.intro rfl ?_)) | (refine Exists.intro _ (Exists.intro _ (And.intro rfl ?_))))); try (conv => whnf)
  refine ⟨Nat, fun i => i ≤ k, fun i => k - i, fun i => [(0, .il (marks n k)), (1, .i (n + i)), (5, .i i)], fun i => [], ⟨0, ⟨.frz [], [], ⟨rfl, by simp [V.ren, EnvV.upd, EnvV.ev, env0T], rfl, trivial⟩, trivial, by decide, rfl, rfl, rfl⟩, by simp⟩, fun i hi => ?_⟩
  dsimp only at hi
  (repeat ((conv => whnf); first | (refine And.intro (by first | omega | (dsimp only; omega) | with_reducible rfl | (simp; done) | (simp; omega) | rfl | exact .inl rfl | exact .inr rfl | (intro hq; simp at hq; done) | (show _ = _; kernel_rfl)) ?_) | (refine brT rfl ?_) | (refine brF rfl ?_) | (refine Exists.intro _ (And.intro rfl ?_)) | (refine Exists.intro _ (Exists.intro _ (And.intro rfl ?_))))); try (conv => whnf)
  refine Br.mk (fun h => ?_) (fun h => ?_) <;> simp [-Int.ofNat_toNat] at h
  · have h1 : rdT (.int .i64) (marks n k) i = n + i := by simp [rd, List.getD_eq_getElem?_getD, marks_get n (show i < k by omega)]
    (repeat ((conv => whnf); first | (refine And.intro (by first | omega | (dsimp only; omega) | with_reducible rfl | (simp; done) | (simp; omega) | rfl | exact .inl rfl | exact .inr rfl | (intro hq; simp at hq; done) | (show _ = _; kernel_rfl)) ?_) | (refine brT rfl ?_) | (refine brF rfl ?_) | (refine Exists.intro _ (And.intro rfl ?_)) | (refine Exists.intro _ (Exists.intro _ (And.intro rfl ?_))))); try (conv => whnf)
    rw [h1]
    refine Br.mk (fun h2 => ?_) (fun h2 => ?_) <;> simp [-Int.ofNat_toNat] at h2
    (repeat ((conv => whnf); first | (refine And.intro (by first | omega | (dsimp only; omega) | with_reducible rfl | (simp; done) | (simp; omega) | rfl | exact .inl rfl | exact .inr rfl | (intro hq; simp at hq; done) | (show _ = _; kernel_rfl)) ?_) | (refine brT rfl ?_) | (refine brF rfl ?_) | (refine Exists.intro _ (And.intro rfl ?_)) | (refine Exists.intro _ (Exists.intro _ (And.intro rfl ?_))))); try (conv => whnf)
    refine ⟨i + 1, ⟨.frz [], [], ⟨rfl, ?_, rfl, trivial⟩, trivial, by decide, rfl, rfl, rfl⟩, by omega, by dsimp only; omega⟩
    show V.i (n + i + 1) = V.i (n + (i + 1 : Nat))
    rw [show n + (i : Int) + 1 = n + ((i + 1 : Nat) : Int) by omega]
  · (repeat ((conv => whnf); first | (refine And.intro (by first | omega | (dsimp only; omega) | with_reducible rfl | (simp; done) | (simp; omega) | rfl | exact .inl rfl | exact .inr rfl | (intro hq; simp at hq; done) | (show _ = _; kernel_rfl)) ?_) | (refine brT rfl ?_) | (refine brF rfl ?_) | (refine Exists.intro _ (And.intro rfl ?_)) | (refine Exists.intro _ (Exists.intro _ (And.intro rfl ?_))))); try (conv => whnf)
    obtain rfl : i = k := by omega
    rfl
theorem heldIntN (n : Int) : ConS Try.prog 17 [.nil .unit, .i n] (.i n) := by
  refine conS_of hmix hTab Try.func17 rfl rfl (by kernel_rfl) (by show 2 ≤ Try.f17.ntmps; decide) rfl ?_
  (repeat ((conv => whnf); first | (refine And.intro (by first | omega | (dsimp only; omega) | with_reducible rfl | (simp; done) | (simp; omega) | rfl | exact .inl rfl | exact .inr rfl | (intro hq; simp at hq; done) | (show _ = _; kernel_rfl)) ?_) | (refine brT rfl ?_) | (refine brF rfl ?_) | (refine Exists.intro _ (And.intro rfl ?_)) | (refine Exists.intro _ (Exists.intro _ (And.intro rfl ?_))))); try (conv => whnf)
  refine ⟨Unit, fun _ => True, fun _ => 0, fun _ => [(0, .nil .unit), (1, .i n), (5, .i 0)], fun _ => [], ⟨(), ⟨.frz [], [], ⟨rfl, rfl, rfl, trivial⟩, trivial, by decide, rfl, rfl, rfl⟩, trivial⟩, fun _ _ => ?_⟩
  (repeat ((conv => whnf); first | (refine And.intro (by first | omega | (dsimp only; omega) | with_reducible rfl | (simp; done) | (simp; omega) | rfl | exact .inl rfl | exact .inr rfl | (intro hq; simp at hq; done) | (show _ = _; kernel_rfl)) ?_) | (refine brT rfl ?_) | (refine brF rfl ?_) | (refine Exists.intro _ (And.intro rfl ?_)) | (refine Exists.intro _ (Exists.intro _ (And.intro rfl ?_))))); try (conv => whnf)
end Go.Proofs.YtbcdcbamdahnpaaTv
end
section
open Go Go.Proofs.YtbcdcbamdahnpaaVe Go.Proofs.YtbcdcbamdahnpaaTv Go.Proofs
namespace Go.Proofs.YtbcdcbamdahnpaaTv
set_option maxRecDepth 8000
set_option maxHeartbeats 2000000
/-- The first that gives something. -/
def firstT (g : Nat → Option (List Int)) : Nat → Nat → Option (List Int)
  | 0, _ => none
  | j + 1, c => match g c with
    | some r => some r
    | none => firstT g j (c + 1)
def nextF (f : List Int) (k : Nat) : Nat → List Int → Option (List Int)
  | 0, cols => if fine f cols = true then some cols else none
  | r + 1, cols => if fine f cols = true then firstT (fun c => nextF f k r (cols ++ [(c : Int)])) k 0 else none
def resN : Option (List Int) → V
  | some r => .tup [.il r, .b true]
  | none => .tup [.own 0 0 0, .b false]
def obN : Option (List Int) → List Obj
  | some _ => []
  | none => [.arr (.int .i64) [] true]
theorem nextF_bad {f cols : List Int} {k r : Nat} (h : fine f cols = false) : nextF f k r cols = none := by cases r <;> simp [nextF, h]
theorem l22Next (f : List Int) (n k : Nat) (hn : n ≤ 24) (hk : k ≤ 7) (hf : f.length ≤ 24) (he : f.length % 2 = 0) (hpos : ∀ i : Nat, i < f.length → 0 ≤ rd f i) : ∀ (r : Nat) (cols : List Int), cols.length + r = n → ConT Try.prog 60 [.il f, .i n, .i k, .il cols] (resN (nextF f k r cols)) (obN (nextF f k r cols)) := by
  intro r
  induction r with
  | zero =>
    intro cols hc
    refine conT_of hmix hTab Try.func60 rfl rfl (by kernel_rfl) (by show 4 ≤ Try.f60.ntmps; decide) ?_
    (repeat ((conv => whnf); first | (refine And.intro (by first | omega | (dsimp only; omega) | with_reducible rfl | (simp; done) | (simp; omega) | rfl | exact .inl rfl | exact .inr rfl | (intro hq; simp at hq; done) | (show _ = _; kernel_rfl)) ?_) | (refine brT rfl ?_) | (refine brF rfl ?_) | (refine Exists.intro _ (And.intro rfl ?_)) | (refine Exists.intro _ (Exists.intro _ (And.intro rfl ?_))))); try (conv => whnf)
    refine .inl ⟨_, _, _, (l22Fine f cols hf he hpos).toT, ⟨⟨_, rfl, rfl⟩, ⟨_, rfl, rfl⟩, trivial⟩, ?_⟩
    (repeat ((conv => whnf); first | (refine And.intro (by first | omega | (dsimp only; omega) | with_reducible rfl | (simp; done) | (simp; omega) | rfl | exact .inl rfl | exact .inr rfl | (intro hq; simp at hq; done) | (show _ = _; kernel_rfl)) ?_) | (refine brT rfl ?_) | (refine brF rfl ?_) | (refine Exists.intro _ (And.intro rfl ?_)) | (refine Exists.intro _ (Exists.intro _ (And.intro rfl ?_))))); try (conv => whnf)
    refine Br.mk (fun h1 => ?_) (fun h1 => ?_) <;> simp [-Int.ofNat_toNat] at h1
    · rw [nextF_bad h1]
      (repeat ((conv => whnf); first | (refine And.intro (by first | omega | (dsimp only; omega) | with_reducible rfl | (simp; done) | (simp; omega) | rfl | exact .inl rfl | exact .inr rfl | (intro hq; simp at hq; done) | (show _ = _; kernel_rfl)) ?_) | (refine brT rfl ?_) | (refine brF rfl ?_) | (refine Exists.intro _ (And.intro rfl ?_)) | (refine Exists.intro _ (Exists.intro _ (And.intro rfl ?_))))); try (conv => whnf)
      exact ⟨.frz [], [0], ⟨rfl, trivial⟩, ⟨rfl, trivial⟩, by decide, rfl, rfl, rfl⟩
    · have hN : nextF f k 0 cols = some cols := by simp [nextF, h1]
      rw [hN]
      (repeat ((conv => whnf); first | (refine And.intro (by first | omega | (dsimp only; omega) | with_reducible rfl | (simp; done) | (simp; omega) | rfl | exact .inl rfl | exact .inr rfl | (intro hq; simp at hq; done) | (show _ = _; kernel_rfl)) ?_) | (refine brT rfl ?_) | (refine brF rfl ?_) | (refine Exists.intro _ (And.intro rfl ?_)) | (refine Exists.intro _ (Exists.intro _ (And.intro rfl ?_))))); try (conv => whnf)
      refine Br.mk (fun h2 => ?_) (fun h2 => ?_) <;> simp [-Int.ofNat_toNat] at h2
      · (repeat ((conv => whnf); first | (refine And.intro (by first | omega | (dsimp only; omega) | with_reducible rfl | (simp; done) | (simp; omega) | rfl | exact .inl rfl | exact .inr rfl | (intro hq; simp at hq; done) | (show _ = _; kernel_rfl)) ?_) | (refine brT rfl ?_) | (refine brF rfl ?_) | (refine Exists.intro _ (And.intro rfl ?_)) | (refine Exists.intro _ (Exists.intro _ (And.intro rfl ?_))))); try (conv => whnf)
        exact ⟨.frz [], [], ⟨rfl, trivial⟩, trivial, by decide, rfl, rfl, rfl⟩
      · omega
  | succ r ih =>
    intro cols hc
    refine conT_of hmix hTab Try.func60 rfl rfl (by kernel_rfl) (by show 4 ≤ Try.f60.ntmps; decide) ?_
    (repeat ((conv => whnf); first | (refine And.intro (by first | omega | (dsimp only; omega) | with_reducible rfl | (simp; done) | (simp; omega) | rfl | exact .inl rfl | exact .inr rfl | (intro hq; simp at hq; done) | (show _ = _; kernel_rfl)) ?_) | (refine brT rfl ?_) | (refine brF rfl ?_) | (refine Exists.intro _ (And.intro rfl ?_)) | (refine Exists.intro _ (Exists.intro _ (And.intro rfl ?_))))); try (conv => whnf)
    refine .inl ⟨_, _, _, (l22Fine f cols hf he hpos).toT, ⟨⟨_, rfl, rfl⟩, ⟨_, rfl, rfl⟩, trivial⟩, ?_⟩
    (repeat ((conv => whnf); first | (refine And.intro (by first | omega | (dsimp only; omega) | with_reducible rfl | (simp; done) | (simp; omega) | rfl | exact .inl rfl | exact .inr rfl | (intro hq; simp at hq; done) | (show _ = _; kernel_rfl)) ?_) | (refine brT rfl ?_) | (refine brF rfl ?_) | (refine Exists.intro _ (And.intro rfl ?_)) | (refine Exists.intro _ (Exists.intro _ (And.intro rfl ?_))))); try (conv => whnf)
    refine Br.mk (fun h1 => ?_) (fun h1 => ?_) <;> simp [-Int.ofNat_toNat] at h1
    · rw [nextF_bad h1]
      (repeat ((conv => whnf); first | (refine And.intro (by first | omega | (dsimp only; omega) | with_reducible rfl | (simp; done) | (simp; omega) | rfl | exact .inl rfl | exact .inr rfl | (intro hq; simp at hq; done) | (show _ = _; kernel_rfl)) ?_) | (refine brT rfl ?_) | (refine brF rfl ?_) | (refine Exists.intro _ (And.intro rfl ?_)) | (refine Exists.intro _ (Exists.intro _ (And.intro rfl ?_))))); try (conv => whnf)
      exact ⟨.frz [], [0], ⟨rfl, trivial⟩, ⟨rfl, trivial⟩, by decide, rfl, rfl, rfl⟩
    · have hN : nextF f k (r + 1) cols = firstT (fun c => nextF f k r (cols ++ [(c : Int)])) k 0 := by simp [nextF, h1]
      rw [hN]
      (repeat ((conv => whnf); first | (refine And.intro (by first | omega | (dsimp only; omega) | with_reducible rfl | (simp; done) | (simp; omega) | rfl | exact .inl rfl | exact .inr rfl | (intro hq; simp at hq; done) | (show _ = _; kernel_rfl)) ?_) | (refine brT rfl ?_) | (refine brF rfl ?_) | (refine Exists.intro _ (And.intro rfl ?_)) | (refine Exists.intro _ (Exists.intro _ (And.intro rfl ?_))))); try (conv => whnf)
      refine Br.mk (fun h2 => ?_) (fun h2 => ?_) <;> simp [-Int.ofNat_toNat] at h2
      · omega
      · (repeat ((conv => whnf); first | (refine And.intro (by first | omega | (dsimp only; omega) | with_reducible rfl | (simp; done) | (simp; omega) | rfl | exact .inl rfl | exact .inr rfl | (intro hq; simp at hq; done) | (show _ = _; kernel_rfl)) ?_) | (refine brT rfl ?_) | (refine brF rfl ?_) | (refine Exists.intro _ (And.intro rfl ?_)) | (refine Exists.intro _ (Exists.intro _ (And.intro rfl ?_))))); try (conv => whnf)
        refine ⟨Nat, fun c => c ≤ k ∧ firstT (fun c => nextF f k r (cols ++ [(c : Int)])) (k - c) c = firstT (fun c => nextF f k r (cols ++ [(c : Int)])) k 0, fun c => k - c, fun c => [(0, .il f), (1, .i n), (2, .i k), (3, .il cols), (10, .i c)], fun c => [], ⟨0, ⟨.frz [], [], ⟨rfl, rfl, rfl, rfl, rfl, trivial⟩, trivial, by decide, rfl, rfl, rfl⟩, by simp⟩, fun c ⟨hi, hc2⟩ => ?_⟩
        replace hi : c ≤ k := hi
        (repeat ((conv => whnf); first | (refine And.intro (by first | omega | (dsimp only; omega) | with_reducible rfl | (simp; done) | (simp; omega) | rfl | exact .inl rfl | exact .inr rfl | (intro hq; simp at hq; done) | (show _ = _; kernel_rfl)) ?_) | (refine brT rfl ?_) | (refine brF rfl ?_) | (refine Exists.intro _ (And.intro rfl ?_)) | (refine Exists.intro _ (Exists.intro _ (And.intro rfl ?_))))); try (conv => whnf)
        refine Br.mk (fun h3 => ?_) (fun h3 => ?_) <;> simp [-Int.ofNat_toNat] at h3
        · have e1 : k - c = (k - (c + 1)) + 1 := by omega
          rw [e1, firstT] at hc2
          have hcall := ih (cols ++ [(c : Int)]) (by simp; omega)
          (repeat ((conv => whnf); first | (refine And.intro (by first | omega | (dsimp only; omega) | with_reducible rfl | (simp; done) | (simp; omega) | rfl | exact .inl rfl | exact .inr rfl | (intro hq; simp at hq; done) | (show _ = _; kernel_rfl)) ?_) | (refine brT rfl ?_) | (refine brF rfl ?_) | (refine Exists.intro _ (And.intro rfl ?_)) | (refine Exists.intro _ (Exists.intro _ (And.intro rfl ?_))))); try (conv => whnf)
          cases hx : nextF f k r (cols ++ [(c : Int)]) with
          | some res =>
            rw [hx] at hc2 hcall
            simp only at hc2
            rw [← hc2]
            refine .inl ⟨_, _, _, hcall, ⟨⟨_, rfl, rfl⟩, rfl, rfl, ⟨_, _, rfl, by simp, by simp; exact List.take_of_length_le (by simp)⟩, trivial⟩, ?_⟩
            (repeat ((conv => whnf); first | (refine And.intro (by first | omega | (dsimp only; omega) | with_reducible rfl | (simp; done) | (simp; omega) | rfl | exact .inl rfl | exact .inr rfl | (intro hq; simp at hq; done) | (show _ = _; kernel_rfl)) ?_) | (refine brT rfl ?_) | (refine brF rfl ?_) | (refine Exists.intro _ (And.intro rfl ?_)) | (refine Exists.intro _ (Exists.intro _ (And.intro rfl ?_))))); try (conv => whnf)
            exact ⟨.frz [], [], ⟨rfl, trivial⟩, trivial, by decide, rfl, rfl, rfl⟩
          | none =>
            rw [hx] at hc2 hcall
            simp only at hc2
            refine .inl ⟨_, _, _, hcall, ⟨⟨_, rfl, rfl⟩, rfl, rfl, ⟨_, _, rfl, by simp, by simp; exact List.take_of_length_le (by simp)⟩, trivial⟩, ?_⟩
            (repeat ((conv => whnf); first | (refine And.intro (by first | omega | (dsimp only; omega) | with_reducible rfl | (simp; done) | (simp; omega) | rfl | exact .inl rfl | exact .inr rfl | (intro hq; simp at hq; done) | (show _ = _; kernel_rfl)) ?_) | (refine brT rfl ?_) | (refine brF rfl ?_) | (refine Exists.intro _ (And.intro rfl ?_)) | (refine Exists.intro _ (Exists.intro _ (And.intro rfl ?_))))); try (conv => whnf)
            exact ⟨c + 1, ⟨.frz [], [], ⟨rfl, rfl, rfl, rfl, rfl, trivial⟩, trivial, by decide, rfl, rfl, rfl⟩, ⟨h3, hc2⟩, by dsimp only; omega⟩
        · (repeat ((conv => whnf); first | (refine And.intro (by first | omega | (dsimp only; omega) | with_reducible rfl | (simp; done) | (simp; omega) | rfl | exact .inl rfl | exact .inr rfl | (intro hq; simp at hq; done) | (show _ = _; kernel_rfl)) ?_) | (refine brT rfl ?_) | (refine brF rfl ?_) | (refine Exists.intro _ (And.intro rfl ?_)) | (refine Exists.intro _ (Exists.intro _ (And.intro rfl ?_))))); try (conv => whnf)
          obtain rfl : c = k := by omega
          rw [Nat.sub_self, firstT] at hc2
          rw [← hc2]
          exact ⟨.frz [], [0], ⟨rfl, trivial⟩, ⟨rfl, trivial⟩, by decide, rfl, rfl, rfl⟩
/-- The first colouring. -/
def colT (m : List Int) (k : Nat) : Option (List Int) := nextF (faces m) k (cyc (dualF m)).length []
def resC : Option (List Int) → V
  | some r => .il r
  | none => .own 0 0 0
theorem FirstColouringS (m : List Int) (a : Int) (hm : (m.length : Int) ≤ 1048576) : ConT Try.prog 14 [.il m, .i a] (resC (if isMap m = true ∧ 1 ≤ a ∧ a ≤ 7 then colT m a.toNat else none)) (obN (if isMap m = true ∧ 1 ≤ a ∧ a ≤ 7 then colT m a.toNat else none)) := by
  refine conT_of hmix hTab Try.func14 rfl rfl (by kernel_rfl) (by show 2 ≤ Try.f14.ntmps; decide) ?_
  (repeat ((conv => whnf); first | (refine And.intro (by first | omega | (dsimp only; omega) | with_reducible rfl | (simp; done) | (simp; omega) | rfl | exact .inl rfl | exact .inr rfl | (intro hq; simp at hq; done) | (show _ = _; kernel_rfl)) ?_) | (refine brT rfl ?_) | (refine brF rfl ?_) | (refine Exists.intro _ (And.intro rfl ?_)) | (refine Exists.intro _ (Exists.intro _ (And.intro rfl ?_))))); try (conv => whnf)
  refine .inl ⟨_, _, _, (IsMapS m hm).toT, ⟨⟨_, rfl, rfl⟩, trivial⟩, ?_⟩
  (repeat ((conv => whnf); first | (refine And.intro (by first | omega | (dsimp only; omega) | with_reducible rfl | (simp; done) | (simp; omega) | rfl | exact .inl rfl | exact .inr rfl | (intro hq; simp at hq; done) | (show _ = _; kernel_rfl)) ?_) | (refine brT rfl ?_) | (refine brF rfl ?_) | (refine Exists.intro _ (And.intro rfl ?_)) | (refine Exists.intro _ (Exists.intro _ (And.intro rfl ?_))))); try (conv => whnf)
  refine Br.mk (fun h => ?_) (fun h => ?_)
  · rw [if_neg (by simp at h; simp [h])]
    (repeat ((conv => whnf); first | (refine And.intro (by first | omega | (dsimp only; omega) | with_reducible rfl | (simp; done) | (simp; omega) | rfl | exact .inl rfl | exact .inr rfl | (intro hq; simp at hq; done) | (show _ = _; kernel_rfl)) ?_) | (refine brT rfl ?_) | (refine brF rfl ?_) | (refine Exists.intro _ (And.intro rfl ?_)) | (refine Exists.intro _ (Exists.intro _ (And.intro rfl ?_))))); try (conv => whnf)
    exact ⟨.frz [], [0], ⟨rfl, trivial⟩, ⟨rfl, trivial⟩, by decide, rfl, rfl, rfl⟩
  · simp only [Bool.not_eq_eq_eq_not, Bool.not_false] at h
    obtain ⟨h1, h2, h3, h4⟩ := isMap_facts h
    (repeat ((conv => whnf); first | (refine And.intro (by first | omega | (dsimp only; omega) | with_reducible rfl | (simp; done) | (simp; omega) | rfl | exact .inl rfl | exact .inr rfl | (intro hq; simp at hq; done) | (show _ = _; kernel_rfl)) ?_) | (refine brT rfl ?_) | (refine brF rfl ?_) | (refine Exists.intro _ (And.intro rfl ?_)) | (refine Exists.intro _ (Exists.intro _ (And.intro rfl ?_))))); try (conv => whnf)
    refine .inl ⟨_, _, _, (l1In _ _ _).toT, ⟨rfl, rfl, rfl, trivial⟩, ?_⟩
    (repeat ((conv => whnf); first | (refine And.intro (by first | omega | (dsimp only; omega) | with_reducible rfl | (simp; done) | (simp; omega) | rfl | exact .inl rfl | exact .inr rfl | (intro hq; simp at hq; done) | (show _ = _; kernel_rfl)) ?_) | (refine brT rfl ?_) | (refine brF rfl ?_) | (refine Exists.intro _ (And.intro rfl ?_)) | (refine Exists.intro _ (Exists.intro _ (And.intro rfl ?_))))); try (conv => whnf)
    refine Br.mk (fun h5 => ?_) (fun h5 => ?_)
    · simp only [Bool.not_eq_eq_eq_not, Bool.not_true, decide_eq_false_iff_not] at h5
      rw [if_neg (fun c => h5 c.2)]
      (repeat ((conv => whnf); first | (refine And.intro (by first | omega | (dsimp only; omega) | with_reducible rfl | (simp; done) | (simp; omega) | rfl | exact .inl rfl | exact .inr rfl | (intro hq; simp at hq; done) | (show _ = _; kernel_rfl)) ?_) | (refine brT rfl ?_) | (refine brF rfl ?_) | (refine Exists.intro _ (And.intro rfl ?_)) | (refine Exists.intro _ (Exists.intro _ (And.intro rfl ?_))))); try (conv => whnf)
      exact ⟨.frz [], [0], ⟨rfl, trivial⟩, ⟨rfl, trivial⟩, by decide, rfl, rfl, rfl⟩
    · simp only [Bool.not_eq_eq_eq_not, Bool.not_false, decide_eq_true_eq] at h5
      rw [if_pos ⟨h, h5⟩]
      (repeat ((conv => whnf); first | (refine And.intro (by first | omega | (dsimp only; omega) | with_reducible rfl | (simp; done) | (simp; omega) | rfl | exact .inl rfl | exact .inr rfl | (intro hq; simp at hq; done) | (show _ = _; kernel_rfl)) ?_) | (refine brT rfl ?_) | (refine brF rfl ?_) | (refine Exists.intro _ (And.intro rfl ?_)) | (refine Exists.intro _ (Exists.intro _ (And.intro rfl ?_))))); try (conv => whnf)
      refine .inl ⟨_, _, _, l22Faces m h1 h3 h4, ⟨⟨_, rfl, rfl⟩, trivial⟩, ?_⟩
      (repeat ((conv => whnf); first | (refine And.intro (by first | omega | (dsimp only; omega) | with_reducible rfl | (simp; done) | (simp; omega) | rfl | exact .inl rfl | exact .inr rfl | (intro hq; simp at hq; done) | (show _ = _; kernel_rfl)) ?_) | (refine brT rfl ?_) | (refine brF rfl ?_) | (refine Exists.intro _ (And.intro rfl ?_)) | (refine Exists.intro _ (Exists.intro _ (And.intro rfl ?_))))); try (conv => whnf)
      refine .inl ⟨_, _, _, FacesOf m hm, ⟨⟨_, rfl, rfl⟩, trivial⟩, ?_⟩
      rw [if_pos h]
      (repeat ((conv => whnf); first | (refine And.intro (by first | omega | (dsimp only; omega) | with_reducible rfl | (simp; done) | (simp; omega) | rfl | exact .inl rfl | exact .inr rfl | (intro hq; simp at hq; done) | (show _ = _; kernel_rfl)) ?_) | (refine brT rfl ?_) | (refine brF rfl ?_) | (refine Exists.intro _ (And.intro rfl ?_)) | (refine Exists.intro _ (Exists.intro _ (And.intro rfl ?_))))); try (conv => whnf)
      have hcl : (cyc (dualF m)).length ≤ 24 := by have := cyc_length (dualF m); rw [dualF_length] at this; omega
      have hcall := l22Next (faces m) (cyc (dualF m)).length a.toNat hcl (by omega) (by rw [faces_length]; exact h1) (by rw [faces_length]; exact h3) (fun i hi => (faces_in (by rwa [faces_length] at hi)).1) (cyc (dualF m)).length [] (by simp)
      rw [show ((a.toNat : Nat) : Int) = a by omega] at hcall
      have e1 : colT m a.toNat = nextF (faces m) a.toNat (cyc (dualF m)).length [] := rfl
      rw [e1]
      cases hx : nextF (faces m) a.toNat (cyc (dualF m)).length [] with
      | some res =>
        rw [hx] at hcall
        refine .inl ⟨_, _, _, hcall, ⟨⟨_, _, rfl, by simp [faces_length], by simp [List.take_of_length_le, faces_length]⟩, rfl, rfl, ⟨_, _, rfl, by simp, by simp⟩, trivial⟩, ?_⟩
        (repeat ((conv => whnf); first | (refine And.intro (by first | omega | (dsimp only; omega) | with_reducible rfl | (simp; done) | (simp; omega) | rfl | exact .inl rfl | exact .inr rfl | (intro hq; simp at hq; done) | (show _ = _; kernel_rfl)) ?_) | (refine brT rfl ?_) | (refine brF rfl ?_) | (refine Exists.intro _ (And.intro rfl ?_)) | (refine Exists.intro _ (Exists.intro _ (And.intro rfl ?_))))); try (conv => whnf)
        exact ⟨.frz [], [], ⟨rfl, trivial⟩, trivial, by decide, rfl, rfl, rfl⟩
      | none =>
        rw [hx] at hcall
        refine .inl ⟨_, _, _, hcall, ⟨⟨_, _, rfl, by simp [faces_length], by simp [List.take_of_length_le, faces_length]⟩, rfl, rfl, ⟨_, _, rfl, by simp, by simp⟩, trivial⟩, ?_⟩
        (repeat ((conv => whnf); first | (refine And.intro (by first | omega | (dsimp only; omega) | with_reducible rfl | (simp; done) | (simp; omega) | rfl | exact .inl rfl | exact .inr rfl | (intro hq; simp at hq; done) | (show _ = _; kernel_rfl)) ?_) | (refine brT rfl ?_) | (refine brF rfl ?_) | (refine Exists.intro _ (And.intro rfl ?_)) | (refine Exists.intro _ (Exists.intro _ (And.intro rfl ?_))))); try (conv => whnf)
        exact ⟨.frz [], [3], ⟨rfl, trivial⟩, ⟨rfl, trivial⟩, by decide, rfl, rfl, rfl⟩
end Go.Proofs.YtbcdcbamdahnpaaTv
end
section
open Go Go.Proofs.YtbcdcbamdahnpaaVe Go.Proofs.YtbcdcbamdahnpaaTv Go.Proofs
namespace Go.Proofs.YtbcdcbamdahnpaaTv
set_option maxRecDepth 8000
set_option maxHeartbeats 2000000
/-- May a face have this colour, beside those that have one already? -/
def okc (row : List Int) (f : Int) (out : List Int) (c : Int) : Bool := row.all fun b => decide (b ≥ f) || !decide (rd out b = c)
def loopG (g : List Int → Bool × List Int) (row : List Int) (f : Nat) : Nat → Nat → List Int → Bool × List Int
  | 0, _, out => (false, out)
  | j + 1, c, out => match okc row f out c with
    | true => match g (out.set f c) with
      | (true, out') => (true, out')
      | (false, out') => loopG g row f j (c + 1) out'
    | false => loopG g row f j (c + 1) out
def tryF (near : List (List Int)) (k : Nat) : Nat → Nat → List Int → Bool × List Int
  | 0, _, out => (true, out)
  | r + 1, f, out => loopG (tryF near k r (f + 1)) (rdR near f) f k 0 out
theorem loopG_length {g : List Int → Bool × List Int} (hg : ∀ o, (g o).2.length = o.length) (row : List Int) (f : Nat) : ∀ (j c : Nat) (out : List Int), (loopG g row f j c out).2.length = out.length
  | 0, c, out => rfl
  | j + 1, c, out => by
    unfold loopG
    split
    · have := hg (out.set f c)
      split
      · rename_i e; rw [e] at this; simpa using this
      · rename_i e; rw [e] at this; rw [loopG_length hg row f j (c + 1)]; simpa using this
    · exact loopG_length hg row f j (c + 1) out
theorem tryF_length (near : List (List Int)) (k : Nat) : ∀ (r f : Nat) (out : List Int), (tryF near k r f out).2.length = out.length
  | 0, f, out => rfl
  | r + 1, f, out => loopG_length (tryF_length near k r (f + 1)) _ _ _ _ _
def frzObj (near : List (List Int)) : Obj := .frz (.list (.int .i64)) near
def clo : V := .fn 84 [.pcell 0 0, .pcell 1 0, .pcell 2 0, .pcell 3 0, .pcell 4 0]
def sig (n k : Nat) (o5 : Obj) (out : List Int) : List Obj := [.vars [.i n], .vars [.i k], .vars [.own 5 0 n], .vars [.own 6 0 n], .vars [clo], o5, .arr (.int .i64) out true]
theorem tryC (near : List (List Int)) (n k : Nat) (hn : n ≤ 24) (hk : k ≤ 7) (hlen : near.length = n) (hrow : ∀ r ∈ near, r.length ≤ 24 ∧ ∀ b ∈ r, 0 ≤ b ∧ b < (n : Int)) (o5 : Obj) (h5 : o5 = .arr (.list (.int .i64)) near true ∨ o5 = frzObj near) : ∀ (r f : Nat) (out : List Int), f + r = n → out.length = n →
    ConI Try.prog 84 [.i f, .pcell 0 0, .pcell 1 0, .pcell 2 0, .pcell 3 0, .pcell 4 0] (sig n k o5 out) (.b (tryF near k r f out).1) (sig n k (frzObj near) (tryF near k r f out).2) := by
  intro r
  induction r generalizing o5 with
  | zero =>
    intro f out hf ho
    rcases h5 with rfl | rfl
    all_goals
      refine conI_of hmix hTab Try.func84 rfl rfl (by kernel_rfl) (by show 6 ≤ Try.f84.ntmps; decide) ?_
      (repeat ((conv => whnf); first | (refine And.intro (by first | omega | (dsimp only; omega) | with_reducible rfl | (simp; done) | (simp; omega) | rfl | exact .inl rfl | exact .inr rfl | (intro hq; simp at hq; done) | (show _ = _; kernel_rfl)) ?_) | (refine brT rfl ?_) | (refine brF rfl ?_) | (refine Exists.intro _ (And.intro rfl ?_)) | (refine Exists.intro _ (Exists.intro _ (And.intro rfl ?_))))); try (conv => whnf)
      refine Br.mk (fun h1 => ?_) (fun h1 => ?_) <;> simp [-Int.ofNat_toNat] at h1
      · (repeat ((conv => whnf); first | (refine And.intro (by first | omega | (dsimp only; omega) | with_reducible rfl | (simp; done) | (simp; omega) | rfl | exact .inl rfl | exact .inr rfl | (intro hq; simp at hq; done) | (show _ = _; kernel_rfl)) ?_) | (refine brT rfl ?_) | (refine brF rfl ?_) | (refine Exists.intro _ (And.intro rfl ?_)) | (refine Exists.intro _ (Exists.intro _ (And.intro rfl ?_))))); try (conv => whnf)
        exact ⟨.frz [5], [0, 1, 2, 3, 4, 5, 6], ⟨rfl, trivial⟩, ⟨rfl, rfl, rfl, rfl, rfl, rfl, rfl, trivial⟩, by decide, rfl, rfl, rfl⟩
      · omega
  | succ r ih =>
    intro f out hf ho
    have hrl : rdR near f ∈ near := by simp [rdR, show f < near.length by omega]
    obtain ⟨hr1, hr2⟩ := hrow _ hrl
    have hr3 : ∀ j : Nat, j < (rdR near f).length → 0 ≤ rd (rdR near f) j ∧ rd (rdR near f) j < (n : Int) := fun j hj => hr2 _ (by simp [rd, hj])
    have hrd : rdT (.list (.int .i64)) near ↑(0 + (f : Int).toNat) = rdR near f := by simp [rdR]
    generalize hR : rdR near f = row at *
    have body : ∀ (g : Gho 7 (sig n k o5 out)), g.σ' = sig n k (frzObj near) out → ConI Try.prog 84 [.i f, .pcell 0 0, .pcell 1 0, .pcell 2 0, .pcell 3 0, .pcell 4 0] (sig n k o5 out) (.b (tryF near k (r + 1) f out).1) (sig n k (frzObj near) (tryF near k (r + 1) f out).2) := fun g hg => by
      refine conI_of hmix hTab Try.func84 rfl rfl (by kernel_rfl) (by show 6 ≤ Try.f84.ntmps; decide) ?_
      (repeat ((conv => whnf); first | (refine And.intro (by first | omega | (dsimp only; omega) | with_reducible rfl | (simp; done) | (simp; omega) | rfl | exact .inl rfl | exact .inr rfl | (intro hq; simp at hq; done) | (show _ = _; kernel_rfl)) ?_) | (refine brT rfl ?_) | (refine brF rfl ?_) | (refine Exists.intro _ (And.intro rfl ?_)) | (refine Exists.intro _ (Exists.intro _ (And.intro rfl ?_))))); try (conv => whnf)
      refine Br.mk (fun h1 => ?_) (fun h1 => ?_) <;> simp [-Int.ofNat_toNat] at h1
      · omega
      · (repeat ((conv => whnf); first | (refine And.intro (by first | omega | (dsimp only; omega) | with_reducible rfl | (simp; done) | (simp; omega) | rfl | exact .inl rfl | exact .inr rfl | (intro hq; simp at hq; done) | (show _ = _; kernel_rfl)) ?_) | (refine brT rfl ?_) | (refine brF rfl ?_) | (refine Exists.intro _ (And.intro rfl ?_)) | (refine Exists.intro _ (Exists.intro _ (And.intro rfl ?_))))); try (conv => whnf)
        refine ⟨Nat × List Int, fun a => a.1 ≤ k ∧ a.2.length = n ∧ loopG (tryF near k r (f + 1)) row f (k - a.1) a.1 a.2 = tryF near k (r + 1) f out, fun a => k - a.1, fun a => [(0, .i f), (1, .pcell 0 0), (2, .pcell 1 0), (3, .pcell 2 0), (4, .pcell 3 0), (5, .pcell 4 0), (15, .i k), (16, .i a.1)], fun a => sig n k (frzObj near) a.2, ⟨(0, out), ⟨g, [0, 1, 2, 3, 4, 5, 6], ⟨rfl, rfl, rfl, rfl, rfl, rfl, rfl, rfl, trivial⟩, by rw [hg]; exact ⟨rfl, rfl, rfl, rfl, rfl, rfl, rfl, trivial⟩, by decide, rfl, rfl, rfl⟩, by simp [ho, tryF, hR]⟩, fun ⟨c, o2⟩ ⟨hc, hol, hl⟩ => ?_⟩
        dsimp only at hc hol hl
        (repeat ((conv => whnf); first | (refine And.intro (by first | omega | (dsimp only; omega) | with_reducible rfl | (simp; done) | (simp; omega) | rfl | exact .inl rfl | exact .inr rfl | (intro hq; simp at hq; done) | (show _ = _; kernel_rfl)) ?_) | (refine brT rfl ?_) | (refine brF rfl ?_) | (refine Exists.intro _ (And.intro rfl ?_)) | (refine Exists.intro _ (Exists.intro _ (And.intro rfl ?_))))); try (conv => whnf)
        refine Br.mk (fun h2 => ?_) (fun h2 => ?_) <;> simp [-Int.ofNat_toNat] at h2
        · have e1 : k - c = (k - (c + 1)) + 1 := by omega
          rw [e1, loopG] at hl
          (repeat ((conv => whnf); first | (refine And.intro (by first | omega | (dsimp only; omega) | with_reducible rfl | (simp; done) | (simp; omega) | rfl | exact .inl rfl | exact .inr rfl | (intro hq; simp at hq; done) | (show _ = _; kernel_rfl)) ?_) | (refine brT rfl ?_) | (refine brF rfl ?_) | (refine Exists.intro _ (And.intro rfl ?_)) | (refine Exists.intro _ (Exists.intro _ (And.intro rfl ?_))))); try (conv => whnf)
          simp only [hrd]
          refine ⟨Nat × Bool, fun a => a.1 ≤ row.length ∧ (a.2 && (row.drop a.1).all fun b => decide (b ≥ (f : Int)) || !decide (rd o2 b = (c : Int))) = okc row f o2 c, fun a => row.length - a.1, fun a => [(0, .i f), (1, .pcell 0 0), (2, .pcell 1 0), (3, .pcell 2 0), (4, .pcell 3 0), (5, .pcell 4 0), (15, .i k), (16, .i c), (8, .i c), (9, .b a.2), (22, .il row), (23, .i row.length), (24, .i a.1)], fun a => sig n k (frzObj near) o2, ⟨(0, true), ⟨.frz [], [0, 1, 2, 3, 4, 5, 6], ⟨rfl, rfl, rfl, rfl, rfl, rfl, rfl, rfl, rfl, rfl, rfl, rfl, rfl, trivial⟩, ⟨rfl, rfl, rfl, rfl, rfl, rfl, rfl, trivial⟩, by decide, rfl, rfl, rfl⟩, by simp [okc]⟩, fun ⟨j, ok⟩ ⟨hj, hok⟩ => ?_⟩
          dsimp only at hj hok
          (repeat ((conv => whnf); first | (refine And.intro (by first | omega | (dsimp only; omega) | with_reducible rfl | (simp; done) | (simp; omega) | rfl | exact .inl rfl | exact .inr rfl | (intro hq; simp at hq; done) | (show _ = _; kernel_rfl)) ?_) | (refine brT rfl ?_) | (refine brF rfl ?_) | (refine Exists.intro _ (And.intro rfl ?_)) | (refine Exists.intro _ (Exists.intro _ (And.intro rfl ?_))))); try (conv => whnf)
          refine Br.mk (fun h3 => ?_) (fun h3 => ?_) <;> simp [-Int.ofNat_toNat] at h3
          · have h3' := hr3 j h3
            rw [drop_cons h3, List.all_cons] at hok
            have back : ∀ ok' : Bool, (ok' && ((row.drop (j + 1)).all fun b => decide (b ≥ (f : Int)) || !decide (rd o2 b = (c : Int)))) = okc row f o2 c → (j + 1 ≤ row.length ∧ (ok' && (row.drop (j + 1)).all fun b => decide (b ≥ (f : Int)) || !decide (rd o2 b = (c : Int))) = okc row f o2 c) := fun ok' h => ⟨h3, h⟩
            (repeat ((conv => whnf); first | (refine And.intro (by first | omega | (dsimp only; omega) | with_reducible rfl | (simp; done) | (simp; omega) | rfl | exact .inl rfl | exact .inr rfl | (intro hq; simp at hq; done) | (show _ = _; kernel_rfl)) ?_) | (refine brT rfl ?_) | (refine brF rfl ?_) | (refine Exists.intro _ (And.intro rfl ?_)) | (refine Exists.intro _ (Exists.intro _ (And.intro rfl ?_))))); try (conv => whnf)
            refine Br.mk (fun h4 => ?_) (fun h4 => ?_) <;> simp [-Int.ofNat_toNat] at h4
            · subst h4
              simp only [Bool.true_and] at hok
              (repeat ((conv => whnf); first | (refine And.intro (by first | omega | (dsimp only; omega) | with_reducible rfl | (simp; done) | (simp; omega) | rfl | exact .inl rfl | exact .inr rfl | (intro hq; simp at hq; done) | (show _ = _; kernel_rfl)) ?_) | (refine brT rfl ?_) | (refine brF rfl ?_) | (refine Exists.intro _ (And.intro rfl ?_)) | (refine Exists.intro _ (Exists.intro _ (And.intro rfl ?_))))); try (conv => whnf)
              refine Br.mk (fun h5 => ?_) (fun h5 => ?_) <;> simp [-Int.ofNat_toNat] at h5
              · (repeat ((conv => whnf); first | (refine And.intro (by first | omega | (dsimp only; omega) | with_reducible rfl | (simp; done) | (simp; omega) | rfl | exact .inl rfl | exact .inr rfl | (intro hq; simp at hq; done) | (show _ = _; kernel_rfl)) ?_) | (refine brT rfl ?_) | (refine brF rfl ?_) | (refine Exists.intro _ (And.intro rfl ?_)) | (refine Exists.intro _ (Exists.intro _ (And.intro rfl ?_))))); try (conv => whnf)
                exact ⟨(j + 1, true), ⟨.frz [], [0, 1, 2, 3, 4, 5, 6], ⟨rfl, rfl, rfl, rfl, rfl, rfl, rfl, rfl, rfl, rfl, rfl, rfl, rfl, trivial⟩, ⟨rfl, rfl, rfl, rfl, rfl, rfl, rfl, trivial⟩, by decide, rfl, rfl, rfl⟩, back true (by simpa [h5] using hok), by dsimp only; omega⟩
              · (repeat ((conv => whnf); first | (refine And.intro (by first | omega | (dsimp only; omega) | with_reducible rfl | (simp; done) | (simp; omega) | rfl | exact .inl rfl | exact .inr rfl | (intro hq; simp at hq; done) | (show _ = _; kernel_rfl)) ?_) | (refine brT rfl ?_) | (refine brF rfl ?_) | (refine Exists.intro _ (And.intro rfl ?_)) | (refine Exists.intro _ (Exists.intro _ (And.intro rfl ?_))))); try (conv => whnf)
                refine ⟨(j + 1, !decide (rd o2 (rd row j) = (c : Int))), ⟨.frz [], [0, 1, 2, 3, 4, 5, 6], ⟨rfl, rfl, rfl, rfl, rfl, rfl, rfl, rfl, rfl, ?_, rfl, rfl, rfl, trivial⟩, ⟨rfl, rfl, rfl, rfl, rfl, rfl, rfl, trivial⟩, by decide, rfl, rfl, rfl⟩, back _ (by simpa [show ¬ (f : Int) ≤ rd row j by omega] using hok), by dsimp only; omega⟩
                have e5 : ((0 + (rd row j).toNat : Nat) : Int) = rd row j := by omega
                show V.b (decide (rd o2 ((0 + (rd row j).toNat : Nat) : Int) ≠ (c : Int))) = V.b (!decide (rd o2 (rd row j) = (c : Int)))
                rw [e5, ← decide_not]
            · subst h4
              (repeat ((conv => whnf); first | (refine And.intro (by first | omega | (dsimp only; omega) | with_reducible rfl | (simp; done) | (simp; omega) | rfl | exact .inl rfl | exact .inr rfl | (intro hq; simp at hq; done) | (show _ = _; kernel_rfl)) ?_) | (refine brT rfl ?_) | (refine brF rfl ?_) | (refine Exists.intro _ (And.intro rfl ?_)) | (refine Exists.intro _ (Exists.intro _ (And.intro rfl ?_))))); try (conv => whnf)
              exact ⟨(j + 1, false), ⟨.frz [], [0, 1, 2, 3, 4, 5, 6], ⟨rfl, rfl, rfl, rfl, rfl, rfl, rfl, rfl, rfl, rfl, rfl, rfl, rfl, trivial⟩, ⟨rfl, rfl, rfl, rfl, rfl, rfl, rfl, trivial⟩, by decide, rfl, rfl, rfl⟩, back false (by simpa using hok), by dsimp only; omega⟩
          · (repeat ((conv => whnf); first | (refine And.intro (by first | omega | (dsimp only; omega) | with_reducible rfl | (simp; done) | (simp; omega) | rfl | exact .inl rfl | exact .inr rfl | (intro hq; simp at hq; done) | (show _ = _; kernel_rfl)) ?_) | (refine brT rfl ?_) | (refine brF rfl ?_) | (refine Exists.intro _ (And.intro rfl ?_)) | (refine Exists.intro _ (Exists.intro _ (And.intro rfl ?_))))); try (conv => whnf)
            obtain rfl : j = row.length := Nat.le_antisymm hj h3
            simp only [List.drop_length, List.all_nil, Bool.and_true] at hok
            subst hok
            refine Br.mk (fun h4 => ?_) (fun h4 => ?_) <;> simp [-Int.ofNat_toNat] at h4
            · rw [h4] at hl
              simp only at hl
              have hcall := ih (frzObj near) (.inr rfl) (f + 1) (o2.set f (c : Int)) (by omega) (by simpa using hol)
              have hol' : f < o2.length := by omega
              (repeat ((conv => whnf); first | (refine And.intro (by first | omega | (dsimp only; omega) | with_reducible rfl | (simp; done) | (simp; omega) | rfl | exact .inl rfl | exact .inr rfl | (intro hq; simp at hq; done) | (show _ = _; kernel_rfl)) ?_) | (refine brT rfl ?_) | (refine brF rfl ?_) | (refine Exists.intro _ (And.intro rfl ?_)) | (refine Exists.intro _ (Exists.intro _ (And.intro rfl ?_))))); try (conv => whnf)
              rcases hx : tryF near k r (f + 1) (o2.set f (c : Int)) with ⟨b, o3⟩
              have hl3 := tryF_length near k r (f + 1) (o2.set f (c : Int))
              rw [hx] at hl hcall hl3
              simp only [List.length_set] at hl hcall hl3
              refine .inr ⟨[0, 1, 2, 3, 4, 5, 6], _, _, _, _, hcall, by decide, ⟨rfl, rfl, rfl, rfl, rfl, rfl, by simp [Obj.ren], trivial⟩, rfl, .inr ⟨rfl, rfl⟩, ?_⟩
              (repeat ((conv => whnf); first | (refine And.intro (by first | omega | (dsimp only; omega) | with_reducible rfl | (simp; done) | (simp; omega) | rfl | exact .inl rfl | exact .inr rfl | (intro hq; simp at hq; done) | (show _ = _; kernel_rfl)) ?_) | (refine brT rfl ?_) | (refine brF rfl ?_) | (refine Exists.intro _ (And.intro rfl ?_)) | (refine Exists.intro _ (Exists.intro _ (And.intro rfl ?_))))); try (conv => whnf)
              cases b with
              | true =>
                (repeat ((conv => whnf); first | (refine And.intro (by first | omega | (dsimp only; omega) | with_reducible rfl | (simp; done) | (simp; omega) | rfl | exact .inl rfl | exact .inr rfl | (intro hq; simp at hq; done) | (show _ = _; kernel_rfl)) ?_) | (refine brT rfl ?_) | (refine brF rfl ?_) | (refine Exists.intro _ (And.intro rfl ?_)) | (refine Exists.intro _ (Exists.intro _ (And.intro rfl ?_))))); try (conv => whnf)
                rw [← hl]
                exact ⟨.frz [], [0, 1, 2, 3, 4, 5, 6], by repeat (first | exact trivial | refine ⟨by first | rfl | (simp [Obj.ren, frzI, -Int.ofNat_toNat]; done) | (simp [Obj.ren, frzI, -Int.ofNat_toNat]; omega), ?_⟩), by repeat (first | exact trivial | refine ⟨by first | rfl | (simp [Obj.ren, frzI, -Int.ofNat_toNat]; done) | (simp [Obj.ren, frzI, -Int.ofNat_toNat]; omega), ?_⟩), by decide, rfl, rfl, rfl⟩
              | false =>
                simp only at hl
                refine brF rfl ?_
                (repeat ((conv => whnf); first | (refine And.intro (by first | omega | (dsimp only; omega) | with_reducible rfl | (simp; done) | (simp; omega) | rfl | exact .inl rfl | exact .inr rfl | (intro hq; simp at hq; done) | (show _ = _; kernel_rfl)) ?_) | (refine brT rfl ?_) | (refine brF rfl ?_) | (refine Exists.intro _ (And.intro rfl ?_)) | (refine Exists.intro _ (Exists.intro _ (And.intro rfl ?_))))); try (conv => whnf)
                exact ⟨(c + 1, o3), ⟨.frz [], [0, 1, 2, 3, 4, 5, 6], by repeat (first | exact trivial | refine ⟨by first | rfl | (simp [Obj.ren, frzI, -Int.ofNat_toNat]; done) | (simp [Obj.ren, frzI, -Int.ofNat_toNat]; omega), ?_⟩), by repeat (first | exact trivial | refine ⟨by first | rfl | (simp [Obj.ren, frzI, -Int.ofNat_toNat]; done) | (simp [Obj.ren, frzI, -Int.ofNat_toNat]; omega), ?_⟩), by decide, rfl, rfl, rfl⟩, ⟨h2, by dsimp only; omega, hl⟩, by dsimp only; omega⟩
            · rw [h4] at hl
              simp only at hl
              (repeat ((conv => whnf); first | (refine And.intro (by first | omega | (dsimp only; omega) | with_reducible rfl | (simp; done) | (simp; omega) | rfl | exact .inl rfl | exact .inr rfl | (intro hq; simp at hq; done) | (show _ = _; kernel_rfl)) ?_) | (refine brT rfl ?_) | (refine brF rfl ?_) | (refine Exists.intro _ (And.intro rfl ?_)) | (refine Exists.intro _ (Exists.intro _ (And.intro rfl ?_))))); try (conv => whnf)
              exact ⟨(c + 1, o2), ⟨.frz [], [0, 1, 2, 3, 4, 5, 6], ⟨rfl, rfl, rfl, rfl, rfl, rfl, rfl, rfl, trivial⟩, ⟨rfl, rfl, rfl, rfl, rfl, rfl, rfl, trivial⟩, by decide, rfl, rfl, rfl⟩, ⟨h2, hol, hl⟩, by dsimp only; omega⟩
        · (repeat ((conv => whnf); first | (refine And.intro (by first | omega | (dsimp only; omega) | with_reducible rfl | (simp; done) | (simp; omega) | rfl | exact .inl rfl | exact .inr rfl | (intro hq; simp at hq; done) | (show _ = _; kernel_rfl)) ?_) | (refine brT rfl ?_) | (refine brF rfl ?_) | (refine Exists.intro _ (And.intro rfl ?_)) | (refine Exists.intro _ (Exists.intro _ (And.intro rfl ?_))))); try (conv => whnf)
          obtain rfl : c = k := by omega
          rw [Nat.sub_self, loopG] at hl
          rw [← hl]
          exact ⟨.frz [], [0, 1, 2, 3, 4, 5, 6], ⟨rfl, trivial⟩, ⟨rfl, rfl, rfl, rfl, rfl, rfl, rfl, trivial⟩, by decide, rfl, rfl, rfl⟩
    rcases h5 with rfl | rfl
    · exact body (.frz [5]) rfl
    · exact body (.frz []) rfl
end Go.Proofs.YtbcdcbamdahnpaaTv
end
section
open Go Go.Proofs.YtbcdcbamdahnpaaVe Go.Proofs.YtbcdcbamdahnpaaTv Go.Proofs
namespace Go.Proofs.YtbcdcbamdahnpaaTv
set_option maxRecDepth 8000
set_option maxHeartbeats 2000000
/-- The neighbours of the faces; none where a face lies beside itself. -/
def nearF (f : List Int) : Nat → Nat → List (List Int) → Option (List (List Int))
  | 0, _, near => some near
  | r + 1, d, near => if rd f d = rd f (mate d) then none else nearF f r (d + 1) (near.set (rd f d).toNat (rdR near (rd f d) ++ [rd f (mate d)]))
theorem rdR_set {l : List (List Int)} {i j : Int} {x : List Int} (hi : 0 ≤ i ∧ i < l.length) (hj : 0 ≤ j) : rdR (l.set i.toNat x) j = if j = i then x else rdR l j := by
  simp only [rdR, List.getD_eq_getElem?_getD, List.getElem?_set]
  by_cases h : j = i
  · subst h
    rw [if_pos rfl, if_pos (by omega), if_pos rfl]
    rfl
  · rw [if_neg (by omega), if_neg h]
theorem nearF_none {f : List Int} : ∀ (r d : Nat) (near : List (List Int)), nearF f r d near = none → ∃ d' : Nat, d ≤ d' ∧ d' < d + r ∧ rd f d' = rd f (mate d')
  | 0, d, near, h => by simp [nearF] at h
  | r + 1, d, near, h => by
    unfold nearF at h
    split at h
    · exact ⟨d, Nat.le_refl _, by omega, by assumption⟩
    · obtain ⟨d', h1, h2, h3⟩ := nearF_none r (d + 1) _ h
      exact ⟨d', by omega, by omega, h3⟩
theorem nearF_some {f : List Int} {n : Nat} : ∀ (r d : Nat) (near out : List (List Int)), (∀ i : Nat, i < d + r → 0 ≤ rd f i ∧ rd f i < n) → near.length = n → nearF f r d near = some out →
    out.length = n ∧ (∀ d' : Nat, d ≤ d' → d' < d + r → rd f d' ≠ rd f (mate d')) ∧ ∀ a : Int, 0 ≤ a → a < n → (rdR out a).length ≤ (rdR near a).length + r ∧ ∀ b, b ∈ rdR out a ↔ b ∈ rdR near a ∨ ∃ d' : Nat, d ≤ d' ∧ d' < d + r ∧ rd f d' = a ∧ rd f (mate d') = b
  | 0, d, near, out, hf, hn, h => by
    simp only [nearF, Option.some.injEq] at h
    subst h
    refine ⟨hn, fun d' h1 h2 => by omega, fun a h1 h2 => ⟨by omega, fun b => ⟨.inl, fun h => ?_⟩⟩⟩
    rcases h with h | ⟨d', h3, h4, _⟩
    · exact h
    · omega
  | r + 1, d, near, out, hf, hn, h => by
    unfold nearF at h
    split at h
    · cases h
    · rename_i hne
      have hfd := hf d (by omega)
      obtain ⟨h1, h2, h3⟩ := nearF_some r (d + 1) _ out (fun i hi => hf i (by omega)) (by simpa using hn) h
      refine ⟨h1, fun d' h4 h5 => ?_, fun a h4 h5 => ?_⟩
      · by_cases e : d' = d
        · rw [e]; exact hne
        · exact h2 d' (by omega) (by omega)
      · obtain ⟨h6, h7⟩ := h3 a h4 h5
        rw [rdR_set (by omega) h4] at h6 h7
        by_cases e : a = rd f d
        · rw [if_pos e] at h6 h7
          rw [← e] at h6 h7
          refine ⟨by simp at h6; omega, fun b => ?_⟩
          rw [h7 b]
          simp only [List.mem_append, List.mem_singleton]
          refine ⟨fun h => ?_, fun h => ?_⟩
          · rcases h with (h | h) | ⟨d', k1, k2, k3⟩
            · exact .inl h
            · exact .inr ⟨d, Nat.le_refl _, by omega, e.symm, h.symm⟩
            · exact .inr ⟨d', by omega, by omega, k3⟩
          · rcases h with h | ⟨d', k1, k2, k3, k4⟩
            · exact .inl (.inl h)
            · by_cases e2 : d' = d
              · subst e2; exact .inl (.inr k4.symm)
              · exact .inr ⟨d', by omega, by omega, k3, k4⟩
        · rw [if_neg e] at h6 h7
          refine ⟨by omega, fun b => ?_⟩
          rw [h7 b]
          refine ⟨fun h => ?_, fun h => ?_⟩
          · rcases h with h | ⟨d', k1, k2, k3⟩
            · exact .inl h
            · exact .inr ⟨d', by omega, by omega, k3⟩
          · rcases h with h | ⟨d', k1, k2, k3, k4⟩
            · exact .inl h
            · by_cases e2 : d' = d
              · subst e2; exact absurd k3.symm e
              · exact .inr ⟨d', by omega, by omega, k3, k4⟩
theorem fine_nil {f : List Int} (he : f.length % 2 = 0) (hpos : ∀ i : Nat, i < f.length → 0 ≤ rd f i) : fine f [] = true ↔ ∀ p : Nat, p < f.length → p % 2 = 0 → rd f p ≠ rd f ((p : Int) + 1) := by
  rw [fine_iff]
  refine forall_congr' fun p => forall_congr' fun h1 => forall_congr' fun h2 => ?_
  have := hpos p h1
  simp [badC]
  intro h
  omega
/-- A face's colour is free for its neighbours: what the closure asks and what the reference asks. -/
theorem okc_fine {f : List Int} {n j : Nat} {near : List (List Int)} {out cols : List Int} {c : Int} (he : f.length % 2 = 0) (hf : ∀ i : Nat, i < f.length → 0 ≤ rd f i ∧ rd f i < n) (hne : ∀ d : Nat, d < f.length → rd f d ≠ rd f (mate d)) (hrow : ∀ b, b ∈ rdR near j ↔ ∃ d : Nat, d < f.length ∧ rd f d = j ∧ rd f (mate d) = b) (hj : j < n) (hout : out.length = n) (hcols : out.take j = cols) (hfine : fine f cols = true) : okc (rdR near j) j out c = fine f (cols ++ [c]) := by
  have hcl : cols.length = j := by rw [← hcols]; simp; omega
  have get : ∀ b : Int, 0 ≤ b → b < j → rd (cols ++ [c]) b = rd out b ∧ rd cols b = rd out b := fun b h1 h2 => by
    have h3 : rd cols b = rd out b := by
      rw [← hcols]
      simp only [rd, List.getD_eq_getElem?_getD]
      rw [List.getElem?_take_of_lt (by omega)]
    refine ⟨?_, h3⟩
    rw [← h3]
    simp only [rd, List.getD_eq_getElem?_getD]
    rw [List.getElem?_append_left (by omega)]
  have last : rd (cols ++ [c]) j = c := by simp [rd, List.getD_eq_getElem?_getD, ← hcl]
  have hm : ∀ p : Nat, p < f.length → p % 2 = 0 → (mate p = ((p + 1 : Nat) : Int)) ∧ mate (p + 1) = (p : Int) := fun p h1 h2 => by
    unfold mate
    rw [if_pos h2, if_neg (by omega)]
    omega
  rw [Bool.eq_iff_iff]
  constructor
  · intro h
    have h' : ∀ b : Int, b ∈ rdR near j → b < j → rd out b ≠ c := fun b hb hbj e => by
      simp only [okc, List.all_eq_true, Bool.or_eq_true, decide_eq_true_eq, Bool.not_eq_true', decide_eq_false_iff_not] at h
      rcases h b hb with h | h
      · omega
      · exact h e
    rw [fine_iff]
    intro p hp h2
    have hfp := fine_iff.1 hfine p hp h2
    obtain ⟨m1, m2⟩ := hm p hp h2
    have e1 : ((p + 1 : Nat) : Int) = (p : Int) + 1 := by omega
    have hne1 := hne p hp
    rw [m1, e1] at hne1
    have fa := hf p hp
    have fb := hf (p + 1) (by omega)
    rw [e1] at fb
    simp only [badC, List.length_append, List.length_singleton, hcl, Bool.or_eq_false_iff, decide_eq_false_iff_not, Bool.and_eq_false_iff] at hfp ⊢
    refine ⟨hne1, ?_⟩
    by_cases ca : rd f p < j
    · by_cases cb : rd f ((p : Int) + 1) < j
      · right; right
        rw [(get _ fa.1 ca).1, (get _ fb.1 cb).1]
        rcases hfp.2 with h | h | h
        · omega
        · omega
        · rwa [(get _ fa.1 ca).2, (get _ fb.1 cb).2] at h
      · by_cases cc : rd f ((p : Int) + 1) = j
        · right; right
          rw [(get _ fa.1 ca).1, cc, last]
          refine h' _ ((hrow _).2 ⟨p + 1, by omega, ?_, by rw [m2]⟩) ca
          rw [e1, cc]
        · right; left; omega
    · by_cases cc : rd f p = j
      · by_cases cb : rd f ((p : Int) + 1) < j
        · right; right
          rw [(get _ fb.1 cb).1, cc, last]
          refine fun e => h' _ ((hrow _).2 ⟨p, hp, cc, by rw [m1, e1]⟩) cb e.symm
        · right; left; omega
      · left; omega
  · intro h
    rw [fine_iff] at h
    simp only [okc, List.all_eq_true, Bool.or_eq_true, decide_eq_true_eq, Bool.not_eq_true', decide_eq_false_iff_not]
    intro b hb
    obtain ⟨d, d1, d2, d3⟩ := (hrow b).1 hb
    by_cases hbj : b ≥ j
    · exact .inl hbj
    · right
      by_cases h2 : d % 2 = 0
      · obtain ⟨m1, m2⟩ := hm d d1 h2
        have e1 : ((d + 1 : Nat) : Int) = (d : Int) + 1 := by omega
        have h3 := h d d1 h2
        have fb := hf (d + 1) (by omega)
        rw [m1, e1] at d3
        rw [e1] at fb
        simp only [badC, List.length_append, List.length_singleton, hcl, Bool.or_eq_false_iff, decide_eq_false_iff_not, Bool.and_eq_false_iff] at h3
        rw [d3] at fb h3
        rw [d2, last, (get b fb.1 (by omega)).1] at h3
        rcases h3.2 with h | h | h
        · omega
        · omega
        · exact fun e => h e.symm
      · obtain ⟨m1, m2⟩ := hm (d - 1) (by omega) (by omega)
        have e1 : ((d - 1 : Nat) : Int) + 1 = d := by omega
        have e2 : d - 1 + 1 = d := by omega
        have h3 := h (d - 1) (by omega) (by omega)
        have fb := hf (d - 1) (by omega)
        rw [e2] at m2
        rw [m2] at d3
        rw [e1] at h3
        simp only [badC, List.length_append, List.length_singleton, hcl, Bool.or_eq_false_iff, decide_eq_false_iff_not, Bool.and_eq_false_iff] at h3
        rw [d3] at fb h3
        rw [d2, last, (get b fb.1 (by omega)).1] at h3
        rcases h3.2 with h | h | h
        · omega
        · omega
        · exact h
theorem loopG_take {g : List Int → Bool × List Int} {f : Nat} (hg : ∀ o, (g o).2.take (f + 1) = o.take (f + 1)) (row : List Int) : ∀ (j c : Nat) (out : List Int), (loopG g row f j c out).2.take f = out.take f
  | 0, c, out => rfl
  | j + 1, c, out => by
    have hs : (g (out.set f c)).2.take f = out.take f := by
      have := congrArg (List.take f) (hg (out.set f c))
      simpa [List.take_take, show min f (f + 1) = f by omega, List.take_set_of_le] using this
    unfold loopG
    split
    · split
      · rename_i e; rw [e] at hs; exact hs
      · rename_i e; rw [e] at hs; rw [loopG_take hg row j (c + 1)]; exact hs
    · exact loopG_take hg row j (c + 1) out
theorem tryF_take (near : List (List Int)) (k : Nat) : ∀ (r f : Nat) (out : List Int), (tryF near k r f out).2.take f = out.take f
  | 0, f, out => rfl
  | r + 1, f, out => loopG_take (tryF_take near k r (f + 1)) _ _ _ _
def optB : Bool × List Int → Option (List Int)
  | (true, o) => some o
  | (false, _) => none
theorem try_next {f : List Int} {n k : Nat} {near : List (List Int)} (he : f.length % 2 = 0) (hf : ∀ i : Nat, i < f.length → 0 ≤ rd f i ∧ rd f i < n) (hne : ∀ d : Nat, d < f.length → rd f d ≠ rd f (mate d)) (hrow : ∀ j : Nat, j < n → ∀ b, b ∈ rdR near j ↔ ∃ d : Nat, d < f.length ∧ rd f d = j ∧ rd f (mate d) = b) :
    ∀ (r j : Nat) (out : List Int), j + r = n → out.length = n → fine f (out.take j) = true → nextF f k r (out.take j) = optB (tryF near k r j out) := by
  intro r
  induction r with
  | zero =>
    intro j out hj ho hfi
    obtain rfl : j = n := by omega
    rw [nextF, if_pos hfi, tryF, optB, List.take_of_length_le (by omega)]
  | succ r ih =>
    intro j out hj ho hfi
    rw [nextF, if_pos hfi, tryF]
    generalize hcols : out.take j = cols at hfi
    have aux : ∀ (q c : Nat) (o : List Int), o.length = n → o.take j = cols → firstT (fun c => nextF f k r (cols ++ [(c : Int)])) q c = optB (loopG (tryF near k r (j + 1)) (rdR near j) j q c o) := by
      intro q
      induction q with
      | zero => intro c o _ _; rfl
      | succ q iq =>
        intro c o ho2 hc2
        have hok := okc_fine (c := (c : Int)) he hf hne (hrow j (by omega)) (by omega) ho2 hc2 hfi
        rw [firstT, loopG, hok]
        cases hb : fine f (cols ++ [(c : Int)]) with
        | false =>
          rw [nextF_bad hb]
          exact iq (c + 1) o ho2 hc2
        | true =>
          have hset : (o.set j (c : Int)).take (j + 1) = cols ++ [(c : Int)] := by
            rw [List.take_add_one, List.take_set_of_le (Nat.le_refl _), hc2]
            simp [ho2, show j < n by omega]
          have h1 := ih (j + 1) (o.set j (c : Int)) (by omega) (by simpa using ho2) (by rw [hset]; exact hb)
          rw [hset] at h1
          have h2 := tryF_length near k r (j + 1) (o.set j (c : Int))
          have h3 := tryF_take near k r (j + 1) (o.set j (c : Int))
          rw [h1]
          rcases hx : tryF near k r (j + 1) (o.set j (c : Int)) with ⟨b, o'⟩
          rw [hx] at h2 h3
          cases b with
          | true => rfl
          | false =>
            simp only [optB]
            refine iq (c + 1) o' (by simpa [ho2] using h2) ?_
            have := congrArg (List.take j) h3
            rw [hset, List.take_take, show min j (j + 1) = j by omega] at this
            rw [this, List.take_append_of_le_length (by rw [← hc2]; simp; omega), ← hc2, List.take_take, Nat.min_self]
    exact aux k 0 out ho hcols
def colI (m : List Int) (k : Nat) : Option (List Int) := match nearF (faces m) m.length 0 (List.replicate (cyc (dualF m)).length []) with
  | none => none
  | some near => optB (tryF near k (cyc (dualF m)).length 0 (List.replicate (cyc (dualF m)).length 0))
theorem near_facts {m : List Int} {near : List (List Int)} (h : nearF (faces m) m.length 0 (List.replicate (cyc (dualF m)).length []) = some near) : near.length = (cyc (dualF m)).length ∧ (∀ d : Nat, d < m.length → rd (faces m) d ≠ rd (faces m) (mate d)) ∧ ∀ a : Int, 0 ≤ a → a < (cyc (dualF m)).length → (rdR near a).length ≤ m.length ∧ ∀ b, b ∈ rdR near a ↔ ∃ d : Nat, d < m.length ∧ rd (faces m) d = a ∧ rd (faces m) (mate d) = b := by
  obtain ⟨h1, h2, h3⟩ := nearF_some (n := (cyc (dualF m)).length) _ _ _ _ (fun i hi => faces_in (by omega)) (by simp) h
  refine ⟨h1, fun d hd => h2 d (by omega) (by omega), fun a h4 h5 => ?_⟩
  obtain ⟨h6, h7⟩ := h3 a h4 h5
  have e : rdR (List.replicate (cyc (dualF m)).length ([] : List Int)) a = [] := by
    simp only [rdR, List.getD_eq_getElem?_getD, List.getElem?_replicate]
    split <;> rfl
  rw [e] at h6 h7
  refine ⟨by simpa using h6, fun b => ?_⟩
  rw [h7 b]
  simp
theorem colI_colT {m : List Int} (he : m.length % 2 = 0) (k : Nat) : colI m k = colT m k := by
  have hfl := faces_length m
  have hpos : ∀ i : Nat, i < (faces m).length → 0 ≤ rd (faces m) i ∧ rd (faces m) i < (cyc (dualF m)).length := fun i hi => faces_in (by omega)
  unfold colI colT
  cases hx : nearF (faces m) m.length 0 (List.replicate (cyc (dualF m)).length []) with
  | none =>
    obtain ⟨d, _, h1, h2⟩ := nearF_none _ _ _ hx
    have : fine (faces m) [] = false := by
      refine Bool.eq_false_iff.2 fun h => ?_
      rw [fine_nil (by omega) (fun i hi => (hpos i hi).1)] at h
      by_cases hd : d % 2 = 0
      · refine h d (by omega) hd ?_
        rw [mate, if_pos hd] at h2; exact h2
      · refine h (d - 1) (by omega) (by omega) ?_
        rw [mate, if_neg hd] at h2
        rw [show ((d - 1 : Nat) : Int) = (d : Int) - 1 by omega, show (d : Int) - 1 + 1 = d by omega]; exact h2.symm
    rw [nextF_bad this]
  | some near =>
    obtain ⟨h1, h2, h3⟩ := near_facts hx
    have hfin : fine (faces m) [] = true := by
      rw [fine_nil (by omega) (fun i hi => (hpos i hi).1)]
      intro p hp hp2
      have := h2 p (by omega)
      rwa [mate, if_pos hp2] at this
    have := try_next (k := k) (near := near) (by omega) hpos (fun d hd => h2 d (by omega)) (fun j hj b => by rw [(h3 j (by omega) (by omega)).2 b, hfl]) (cyc (dualF m)).length 0 (List.replicate (cyc (dualF m)).length 0) (by simp) (by simp) (by simpa using hfin)
    simpa using this.symm
end Go.Proofs.YtbcdcbamdahnpaaTv
end
section
open Go Go.Proofs.YtbcdcbamdahnpaaVe Go.Proofs.YtbcdcbamdahnpaaTv Go.Proofs
namespace Go.Proofs.YtbcdcbamdahnpaaTv
set_option maxRecDepth 8000
set_option maxHeartbeats 2000000
def resI : Option (List Int) → V
  | some r => .own 0 0 r.length
  | none => .nil .unit
def obI : Option (List Int) → List Obj
  | some r => [.arr (.int .i64) r true]
  | none => []
theorem colouring (m : List Int) (k : Nat) (hk : k ≤ 7) (h24 : m.length ≤ 24) (he : m.length % 2 = 0) (hin : InR' m) : ConT Try.prog 58 [.il m, .i k] (resI (colI m k)) (obI (colI m k)) := by
  refine conT_of hmix hTab Try.func58 rfl rfl (by kernel_rfl) (by show 2 ≤ Try.f58.ntmps; decide) ?_
  have hcl : (cyc (dualF m)).length ≤ 24 := by have := cyc_length (dualF m); rw [dualF_length] at this; omega
  have hfl := faces_length m
  generalize hn : (cyc (dualF m)).length = n at *
  (repeat ((conv => whnf); first | (refine And.intro (by first | omega | (dsimp only; omega) | with_reducible rfl | (simp; done) | (simp; omega) | rfl | exact .inl rfl | exact .inr rfl | (intro hq; simp at hq; done) | (show _ = _; kernel_rfl)) ?_) | (refine brT rfl ?_) | (refine brF rfl ?_) | (refine Exists.intro _ (And.intro rfl ?_)) | (refine Exists.intro _ (Exists.intro _ (And.intro rfl ?_))))); try (conv => whnf)
  refine .inl ⟨_, _, _, faceOf m h24 he hin, ⟨⟨_, rfl, rfl⟩, trivial⟩, ?_⟩
  rw [hn]
  (repeat ((conv => whnf); first | (refine And.intro (by first | omega | (dsimp only; omega) | with_reducible rfl | (simp; done) | (simp; omega) | rfl | exact .inl rfl | exact .inr rfl | (intro hq; simp at hq; done) | (show _ = _; kernel_rfl)) ?_) | (refine brT rfl ?_) | (refine brF rfl ?_) | (refine Exists.intro _ (And.intro rfl ?_)) | (refine Exists.intro _ (Exists.intro _ (And.intro rfl ?_))))); try (conv => whnf)
  refine ⟨Nat × List (List Int), fun a => a.1 ≤ m.length ∧ a.2.length = n ∧ (∀ r ∈ a.2, r.length ≤ a.1) ∧ nearF (faces m) (m.length - a.1) a.1 a.2 = nearF (faces m) m.length 0 (List.replicate n []), fun a => m.length - a.1, fun a => [(0, .il m), (1, .i k), (3, .pcell 0 0), (5, .own 4 0 m.length), (6, .pcell 1 0), (7, .pcell 2 0), (20, .il m), (21, .i m.length), (22, .i a.1)], fun a => [.vars [.i k], .vars [.i n], .vars [.own 3 0 n], .arr (.list (.int .i64)) a.2 true, .arr (.int .i64) (faces m) true], ⟨(0, List.replicate n []), ⟨.frz [], [0, 2, 4, 3, 1], by repeat (first | exact trivial | refine ⟨by first | rfl | (simp [Obj.ren, frzI, -Int.ofNat_toNat]; done) | (simp [Obj.ren, frzI, -Int.ofNat_toNat]; omega), ?_⟩), by repeat (first | exact trivial | refine ⟨by first | rfl | (simp [Obj.ren, frzI, -Int.ofNat_toNat]; done) | (simp [Obj.ren, frzI, -Int.ofNat_toNat]; omega), ?_⟩), by decide, rfl, rfl, rfl⟩, by simp⟩, fun ⟨i, near⟩ ⟨hi, hnl, hrl, hc⟩ => ?_⟩
  dsimp only at hi hnl hrl hc ⊢
  (repeat ((conv => whnf); first | (refine And.intro (by first | omega | (dsimp only; omega) | with_reducible rfl | (simp; done) | (simp; omega) | rfl | exact .inl rfl | exact .inr rfl | (intro hq; simp at hq; done) | (show _ = _; kernel_rfl)) ?_) | (refine brT rfl ?_) | (refine brF rfl ?_) | (refine Exists.intro _ (And.intro rfl ?_)) | (refine Exists.intro _ (Exists.intro _ (And.intro rfl ?_))))); try (conv => whnf)
  refine Br.mk (fun h => ?_) (fun h => ?_) <;> simp [-Int.ofNat_toNat] at h
  · have hx : IntKind.wrap .i64 (BitVec.ofInt IntKind.i64.bits (i : Int) ^^^ BitVec.ofInt IntKind.i64.bits 1).toNat = mate i := xor1 i (by omega)
    have hmt := mate_in he h
    have f1 := faces_in h
    have f2 := faces_in (m := m) (i := (mate i).toNat) (by omega)
    rw [show (((mate i).toNat : Nat) : Int) = mate i by omega] at f2
    rw [hn] at f1 f2
    generalize hx' : mate i = mt at *
    have e1 : m.length - i = (m.length - (i + 1)) + 1 := by omega
    rw [e1, nearF] at hc
    (repeat ((conv => whnf); first | (refine And.intro (by first | omega | (dsimp only; omega) | with_reducible rfl | (simp; done) | (simp; omega) | rfl | exact .inl rfl | exact .inr rfl | (intro hq; simp at hq; done) | (show _ = _; kernel_rfl)) ?_) | (refine brT rfl ?_) | (refine brF rfl ?_) | (refine Exists.intro _ (And.intro rfl ?_)) | (refine Exists.intro _ (Exists.intro _ (And.intro rfl ?_))))); try (conv => whnf)
    rw [hx]
    have hr0 : ((0 + mt.toNat : Nat) : Int) = mt := by omega
    have hr1 : ((0 + (i : Int).toNat : Nat) : Int) = i := by omega
    have hrow : (rdR near (rd (faces m) i)).length ≤ i := hrl _ (by simp [rdR, show (rd (faces m) i).toNat < near.length by omega])
    have hnext : ∀ r ∈ near.set (rd (faces m) i).toNat (rdR near (rd (faces m) i) ++ [rd (faces m) mt]), r.length ≤ i + 1 := fun r hr => by
      rcases List.mem_or_eq_of_mem_set hr with h1 | h1
      · exact Nat.le_succ_of_le (hrl r h1)
      · rw [h1]; simp; omega
    have hg : near.getD (0 + (rd (faces m) i).toNat) [] = rdR near (rd (faces m) i) := by simp [rdR]
    (repeat ((conv => whnf); first | (refine And.intro (by first | omega | (dsimp only; omega) | with_reducible rfl | (simp; done) | (simp; omega) | rfl | exact .inl rfl | exact .inr rfl | (intro hq; simp at hq; done) | (show _ = _; kernel_rfl)) ?_) | (refine brT rfl ?_) | (refine brF rfl ?_) | (refine Exists.intro _ (And.intro rfl ?_)) | (refine Exists.intro _ (Exists.intro _ (And.intro rfl ?_))))); try (conv => whnf)
    simp only [hr0, hr1, rdT]
    refine Br.mk (fun h2 => ?_) (fun h2 => ?_) <;> simp [-Int.ofNat_toNat] at h2
    · rw [if_pos (by rw [hx']; exact h2)] at hc
      have hnone : colI m k = none := by
        unfold colI
        rw [hn, ← hc]
      rw [hnone]
      (repeat ((conv => whnf); first | (refine And.intro (by first | omega | (dsimp only; omega) | with_reducible rfl | (simp; done) | (simp; omega) | rfl | exact .inl rfl | exact .inr rfl | (intro hq; simp at hq; done) | (show _ = _; kernel_rfl)) ?_) | (refine brT rfl ?_) | (refine brF rfl ?_) | (refine Exists.intro _ (And.intro rfl ?_)) | (refine Exists.intro _ (Exists.intro _ (And.intro rfl ?_))))); try (conv => whnf)
      exact ⟨.frz [], [], by repeat (first | exact trivial | refine ⟨by first | rfl | (simp [Obj.ren, frzI, -Int.ofNat_toNat]; done) | (simp [Obj.ren, frzI, -Int.ofNat_toNat]; omega), ?_⟩), by repeat (first | exact trivial | refine ⟨by first | rfl | (simp [Obj.ren, frzI, -Int.ofNat_toNat]; done) | (simp [Obj.ren, frzI, -Int.ofNat_toNat]; omega), ?_⟩), by decide, rfl, rfl, rfl⟩
    · rw [if_neg (by rw [hx']; exact h2)] at hc
      (repeat ((conv => whnf); first | (refine And.intro (by first | omega | (dsimp only; omega) | with_reducible rfl | (simp; done) | (simp; omega) | rfl | exact .inl rfl | exact .inr rfl | (intro hq; simp at hq; done) | (show _ = _; kernel_rfl)) ?_) | (refine brT rfl ?_) | (refine brF rfl ?_) | (refine Exists.intro _ (And.intro rfl ?_)) | (refine Exists.intro _ (Exists.intro _ (And.intro rfl ?_))))); try (conv => whnf)
      refine .inr ⟨rfl, by omega, ⟨fun he2 => ?_, ?_⟩⟩
      all_goals (repeat ((conv => whnf); first | (refine And.intro (by first | omega | (dsimp only; omega) | with_reducible rfl | (simp; done) | (simp; omega) | rfl | exact .inl rfl | exact .inr rfl | (intro hq; simp at hq; done) | (show _ = _; kernel_rfl)) ?_) | (refine brT rfl ?_) | (refine brF rfl ?_) | (refine Exists.intro _ (And.intro rfl ?_)) | (refine Exists.intro _ (Exists.intro _ (And.intro rfl ?_))))); try (conv => whnf)
      · intro _
        (repeat ((conv => whnf); first | (refine And.intro (by first | omega | (dsimp only; omega) | with_reducible rfl | (simp; done) | (simp; omega) | rfl | exact .inl rfl | exact .inr rfl | (intro hq; simp at hq; done) | (show _ = _; kernel_rfl)) ?_) | (refine brT rfl ?_) | (refine brF rfl ?_) | (refine Exists.intro _ (And.intro rfl ?_)) | (refine Exists.intro _ (Exists.intro _ (And.intro rfl ?_))))); try (conv => whnf)
        rw [← hg, he2, List.nil_append] at hnext hc
        rw [hx'] at hc
        refine ⟨(i + 1, near.set (rd (faces m) i).toNat [rd (faces m) mt]), ⟨.frz [], [0, 1, 2, 3, 4], by repeat (first | exact trivial | refine ⟨by first | rfl | (simp [Obj.ren, frzI, -Int.ofNat_toNat]; done) | (simp [Obj.ren, frzI, -Int.ofNat_toNat]; omega), ?_⟩), by repeat (first | exact trivial | refine ⟨by first | rfl | (simp [Obj.ren, frzI, -Int.ofNat_toNat]; done) | (simp [Obj.ren, frzI, -Int.ofNat_toNat]; omega), ?_⟩), by decide, rfl, rfl, rfl⟩, ⟨h, by simpa using hnl, hnext, hc⟩, by dsimp only; omega⟩
      · simp only [hg]
        refine And.intro (by simp; omega) ?_
        (repeat ((conv => whnf); first | (refine And.intro (by first | omega | (dsimp only; omega) | with_reducible rfl | (simp; done) | (simp; omega) | rfl | exact .inl rfl | exact .inr rfl | (intro hq; simp at hq; done) | (show _ = _; kernel_rfl)) ?_) | (refine brT rfl ?_) | (refine brF rfl ?_) | (refine Exists.intro _ (And.intro rfl ?_)) | (refine Exists.intro _ (Exists.intro _ (And.intro rfl ?_))))); try (conv => whnf)
        refine ⟨(i + 1, near.set (rd (faces m) i).toNat (rdR near (rd (faces m) i) ++ [rd (faces m) mt])), ⟨.frz [], [0, 1, 2, 3, 4], by repeat (first | exact trivial | refine ⟨by first | rfl | (simp [Obj.ren, frzI, -Int.ofNat_toNat]; done) | (simp [Obj.ren, frzI, -Int.ofNat_toNat]; omega), ?_⟩), by repeat (first | exact trivial | refine ⟨by first | rfl | (simp [Obj.ren, frzI, -Int.ofNat_toNat]; done) | (simp [Obj.ren, frzI, -Int.ofNat_toNat]; omega), ?_⟩), by decide, rfl, rfl, rfl⟩, ⟨h, by simpa using hnl, hnext, by rw [← hx']; exact hc⟩, by dsimp only; omega⟩
  · (repeat ((conv => whnf); first | (refine And.intro (by first | omega | (dsimp only; omega) | with_reducible rfl | (simp; done) | (simp; omega) | rfl | exact .inl rfl | exact .inr rfl | (intro hq; simp at hq; done) | (show _ = _; kernel_rfl)) ?_) | (refine brT rfl ?_) | (refine brF rfl ?_) | (refine Exists.intro _ (And.intro rfl ?_)) | (refine Exists.intro _ (Exists.intro _ (And.intro rfl ?_))))); try (conv => whnf)
    obtain rfl : i = m.length := Nat.le_antisymm hi h
    rw [Nat.sub_self, nearF] at hc
    have hcol : colI m k = optB (tryF near k n 0 (List.replicate n 0)) := by
      unfold colI
      rw [hn, ← hc]
    obtain ⟨n1, n2, n3⟩ := near_facts (m := m) (near := near) (by rw [hn]; exact hc.symm)
    rw [hn] at n1 n3
    have hrows : ∀ r ∈ near, r.length ≤ 24 ∧ ∀ b ∈ r, 0 ≤ b ∧ b < (n : Int) := fun r hr => by
      obtain ⟨a, ha⟩ := List.mem_iff_getElem?.1 hr
      have ha2 := (List.getElem?_eq_some_iff.1 ha).1
      have ha3 : rdR near a = r := by simp [rdR, ha]
      obtain ⟨q1, q2⟩ := n3 a (by omega) (by omega)
      rw [ha3] at q1 q2
      refine ⟨by omega, fun b hb => ?_⟩
      obtain ⟨d, d1, d2, d3⟩ := (q2 b).1 hb
      have hmt := mate_in he d1
      have f2 := faces_in (m := m) (i := (mate d).toNat) (by omega)
      rw [show (((mate d).toNat : Nat) : Int) = mate d by omega, hn] at f2
      rw [← d3]; exact f2
    have hcall := tryC near n k hcl hk hnl hrows _ (.inl rfl) n 0 (List.replicate n 0) (by omega) (by simp)
    rw [hcol]
    have hl := tryF_length near k n 0 (List.replicate n 0)
    rcases hx : tryF near k n 0 (List.replicate n 0) with ⟨b, out⟩
    rw [hx] at hcall hl
    simp only [List.length_replicate] at hl
    refine .inr ⟨[1, 0, 2, 6, 7, 3, 5], _, _, _, _, hcall, by decide, ⟨rfl, rfl, rfl, rfl, rfl, rfl, rfl, trivial⟩, rfl, .inr ⟨rfl, rfl⟩, ?_⟩
    (repeat ((conv => whnf); first | (refine And.intro (by first | omega | (dsimp only; omega) | with_reducible rfl | (simp; done) | (simp; omega) | rfl | exact .inl rfl | exact .inr rfl | (intro hq; simp at hq; done) | (show _ = _; kernel_rfl)) ?_) | (refine brT rfl ?_) | (refine brF rfl ?_) | (refine Exists.intro _ (And.intro rfl ?_)) | (refine Exists.intro _ (Exists.intro _ (And.intro rfl ?_))))); try (conv => whnf)
    cases b with
    | true =>
      (repeat ((conv => whnf); first | (refine And.intro (by first | omega | (dsimp only; omega) | with_reducible rfl | (simp; done) | (simp; omega) | rfl | exact .inl rfl | exact .inr rfl | (intro hq; simp at hq; done) | (show _ = _; kernel_rfl)) ?_) | (refine brT rfl ?_) | (refine brF rfl ?_) | (refine Exists.intro _ (And.intro rfl ?_)) | (refine Exists.intro _ (Exists.intro _ (And.intro rfl ?_))))); try (conv => whnf)
      rw [optB, resI, obI, hl]
      exact ⟨.frz [], [5], by repeat (first | exact trivial | refine ⟨by first | rfl | (simp [Obj.ren, frzI, -Int.ofNat_toNat]; done) | (simp [Obj.ren, frzI, -Int.ofNat_toNat]; omega), ?_⟩), by repeat (first | exact trivial | refine ⟨by first | rfl | (simp [Obj.ren, frzI, -Int.ofNat_toNat]; done) | (simp [Obj.ren, frzI, -Int.ofNat_toNat]; omega), ?_⟩), by decide, rfl, rfl, rfl⟩
    | false =>
      (repeat ((conv => whnf); first | (refine And.intro (by first | omega | (dsimp only; omega) | with_reducible rfl | (simp; done) | (simp; omega) | rfl | exact .inl rfl | exact .inr rfl | (intro hq; simp at hq; done) | (show _ = _; kernel_rfl)) ?_) | (refine brT rfl ?_) | (refine brF rfl ?_) | (refine Exists.intro _ (And.intro rfl ?_)) | (refine Exists.intro _ (Exists.intro _ (And.intro rfl ?_))))); try (conv => whnf)
      exact ⟨.frz [], [], by repeat (first | exact trivial | refine ⟨by first | rfl | (simp [Obj.ren, frzI, -Int.ofNat_toNat]; done) | (simp [Obj.ren, frzI, -Int.ofNat_toNat]; omega), ?_⟩), by repeat (first | exact trivial | refine ⟨by first | rfl | (simp [Obj.ren, frzI, -Int.ofNat_toNat]; done) | (simp [Obj.ren, frzI, -Int.ofNat_toNat]; omega), ?_⟩), by decide, rfl, rfl, rfl⟩
end Go.Proofs.YtbcdcbamdahnpaaTv
end
section
open Go Go.Proofs.YtbcdcbamdahnpaaVe Go.Proofs.YtbcdcbamdahnpaaTv Go.Proofs
namespace Go.Proofs.YtbcdcbamdahnpaaTv
set_option maxRecDepth 8000
set_option maxHeartbeats 2000000
def colO (m : List Int) (a : Int) : Option (List Int) := if isMap m = true ∧ 1 ≤ a ∧ a ≤ 7 then colT m a.toNat else none
theorem FirstColouringI (m : List Int) (a : Int) (hm : (m.length : Int) ≤ 1048576) : ConT Try.prog 15 [.il m, .i a] (resI (colO m a)) (obI (colO m a)) := by
  refine conT_of hmix hTab Try.func15 rfl rfl (by kernel_rfl) (by show 2 ≤ Try.f15.ntmps; decide) ?_
  unfold colO
  (repeat ((conv => whnf); first | (refine And.intro (by first | omega | (dsimp only; omega) | with_reducible rfl | (simp; done) | (simp; omega) | rfl | exact .inl rfl | exact .inr rfl | (intro hq; simp at hq; done) | (show _ = _; kernel_rfl)) ?_) | (refine brT rfl ?_) | (refine brF rfl ?_) | (refine Exists.intro _ (And.intro rfl ?_)) | (refine Exists.intro _ (Exists.intro _ (And.intro rfl ?_))))); try (conv => whnf)
  refine .inl ⟨_, _, _, (IsMapI m hm).toT, ⟨⟨_, rfl, rfl⟩, trivial⟩, ?_⟩
  (repeat ((conv => whnf); first | (refine And.intro (by first | omega | (dsimp only; omega) | with_reducible rfl | (simp; done) | (simp; omega) | rfl | exact .inl rfl | exact .inr rfl | (intro hq; simp at hq; done) | (show _ = _; kernel_rfl)) ?_) | (refine brT rfl ?_) | (refine brF rfl ?_) | (refine Exists.intro _ (And.intro rfl ?_)) | (refine Exists.intro _ (Exists.intro _ (And.intro rfl ?_))))); try (conv => whnf)
  refine Br.mk (fun h => ?_) (fun h => ?_)
  · rw [if_neg (by simp at h; simp [h])]
    (repeat ((conv => whnf); first | (refine And.intro (by first | omega | (dsimp only; omega) | with_reducible rfl | (simp; done) | (simp; omega) | rfl | exact .inl rfl | exact .inr rfl | (intro hq; simp at hq; done) | (show _ = _; kernel_rfl)) ?_) | (refine brT rfl ?_) | (refine brF rfl ?_) | (refine Exists.intro _ (And.intro rfl ?_)) | (refine Exists.intro _ (Exists.intro _ (And.intro rfl ?_))))); try (conv => whnf)
    exact ⟨.frz [], [], by repeat (first | exact trivial | refine ⟨by first | rfl | (simp [Obj.ren, frzI, -Int.ofNat_toNat]; done) | (simp [Obj.ren, frzI, -Int.ofNat_toNat]; omega), ?_⟩), by repeat (first | exact trivial | refine ⟨by first | rfl | (simp [Obj.ren, frzI, -Int.ofNat_toNat]; done) | (simp [Obj.ren, frzI, -Int.ofNat_toNat]; omega), ?_⟩), by decide, rfl, rfl, rfl⟩
  · simp only [Bool.not_eq_eq_eq_not, Bool.not_false] at h
    obtain ⟨h1, h2, h3, h4⟩ := isMap_facts h
    (repeat ((conv => whnf); first | (refine And.intro (by first | omega | (dsimp only; omega) | with_reducible rfl | (simp; done) | (simp; omega) | rfl | exact .inl rfl | exact .inr rfl | (intro hq; simp at hq; done) | (show _ = _; kernel_rfl)) ?_) | (refine brT rfl ?_) | (refine brF rfl ?_) | (refine Exists.intro _ (And.intro rfl ?_)) | (refine Exists.intro _ (Exists.intro _ (And.intro rfl ?_))))); try (conv => whnf)
    refine .inl ⟨_, _, _, (within _ _ _).toT, ⟨rfl, rfl, rfl, trivial⟩, ?_⟩
    (repeat ((conv => whnf); first | (refine And.intro (by first | omega | (dsimp only; omega) | with_reducible rfl | (simp; done) | (simp; omega) | rfl | exact .inl rfl | exact .inr rfl | (intro hq; simp at hq; done) | (show _ = _; kernel_rfl)) ?_) | (refine brT rfl ?_) | (refine brF rfl ?_) | (refine Exists.intro _ (And.intro rfl ?_)) | (refine Exists.intro _ (Exists.intro _ (And.intro rfl ?_))))); try (conv => whnf)
    refine Br.mk (fun h5 => ?_) (fun h5 => ?_)
    · simp only [Bool.not_eq_eq_eq_not, Bool.not_true, decide_eq_false_iff_not] at h5
      rw [if_neg (fun c => h5 c.2)]
      (repeat ((conv => whnf); first | (refine And.intro (by first | omega | (dsimp only; omega) | with_reducible rfl | (simp; done) | (simp; omega) | rfl | exact .inl rfl | exact .inr rfl | (intro hq; simp at hq; done) | (show _ = _; kernel_rfl)) ?_) | (refine brT rfl ?_) | (refine brF rfl ?_) | (refine Exists.intro _ (And.intro rfl ?_)) | (refine Exists.intro _ (Exists.intro _ (And.intro rfl ?_))))); try (conv => whnf)
      exact ⟨.frz [], [], by repeat (first | exact trivial | refine ⟨by first | rfl | (simp [Obj.ren, frzI, -Int.ofNat_toNat]; done) | (simp [Obj.ren, frzI, -Int.ofNat_toNat]; omega), ?_⟩), by repeat (first | exact trivial | refine ⟨by first | rfl | (simp [Obj.ren, frzI, -Int.ofNat_toNat]; done) | (simp [Obj.ren, frzI, -Int.ofNat_toNat]; omega), ?_⟩), by decide, rfl, rfl, rfl⟩
    · simp only [Bool.not_eq_eq_eq_not, Bool.not_false, decide_eq_true_eq] at h5
      rw [if_pos ⟨h, h5⟩]
      have hcall := colouring m a.toNat (by omega) h1 h3 h4
      rw [show ((a.toNat : Nat) : Int) = a by omega, colI_colT h3] at hcall
      (repeat ((conv => whnf); first | (refine And.intro (by first | omega | (dsimp only; omega) | with_reducible rfl | (simp; done) | (simp; omega) | rfl | exact .inl rfl | exact .inr rfl | (intro hq; simp at hq; done) | (show _ = _; kernel_rfl)) ?_) | (refine brT rfl ?_) | (refine brF rfl ?_) | (refine Exists.intro _ (And.intro rfl ?_)) | (refine Exists.intro _ (Exists.intro _ (And.intro rfl ?_))))); try (conv => whnf)
      cases hx : colT m a.toNat with
      | some res =>
        rw [hx] at hcall
        refine .inl ⟨_, _, _, hcall, ⟨⟨_, rfl, rfl⟩, rfl, trivial⟩, ?_⟩
        (repeat ((conv => whnf); first | (refine And.intro (by first | omega | (dsimp only; omega) | with_reducible rfl | (simp; done) | (simp; omega) | rfl | exact .inl rfl | exact .inr rfl | (intro hq; simp at hq; done) | (show _ = _; kernel_rfl)) ?_) | (refine brT rfl ?_) | (refine brF rfl ?_) | (refine Exists.intro _ (And.intro rfl ?_)) | (refine Exists.intro _ (Exists.intro _ (And.intro rfl ?_))))); try (conv => whnf)
        exact ⟨.frz [], [0], by repeat (first | exact trivial | refine ⟨by first | rfl | (simp [Obj.ren, frzI, -Int.ofNat_toNat]; done) | (simp [Obj.ren, frzI, -Int.ofNat_toNat]; omega), ?_⟩), by repeat (first | exact trivial | refine ⟨by first | rfl | (simp [Obj.ren, frzI, -Int.ofNat_toNat]; done) | (simp [Obj.ren, frzI, -Int.ofNat_toNat]; omega), ?_⟩), by decide, rfl, rfl, rfl⟩
      | none =>
        rw [hx] at hcall
        refine .inl ⟨_, _, _, hcall, ⟨⟨_, rfl, rfl⟩, rfl, trivial⟩, ?_⟩
        (repeat ((conv => whnf); first | (refine And.intro (by first | omega | (dsimp only; omega) | with_reducible rfl | (simp; done) | (simp; omega) | rfl | exact .inl rfl | exact .inr rfl | (intro hq; simp at hq; done) | (show _ = _; kernel_rfl)) ?_) | (refine brT rfl ?_) | (refine brF rfl ?_) | (refine Exists.intro _ (And.intro rfl ?_)) | (refine Exists.intro _ (Exists.intro _ (And.intro rfl ?_))))); try (conv => whnf)
        exact ⟨.frz [], [], by repeat (first | exact trivial | refine ⟨by first | rfl | (simp [Obj.ren, frzI, -Int.ofNat_toNat]; done) | (simp [Obj.ren, frzI, -Int.ofNat_toNat]; omega), ?_⟩), by repeat (first | exact trivial | refine ⟨by first | rfl | (simp [Obj.ren, frzI, -Int.ofNat_toNat]; done) | (simp [Obj.ren, frzI, -Int.ofNat_toNat]; omega), ?_⟩), by decide, rfl, rfl, rfl⟩
theorem colT_length {m : List Int} {k : Nat} {r : List Int} (h : colT m k = some r) : r.length = (cyc (dualF m)).length := by
  have aux : ∀ (f : List Int) (n : Nat) (r : Nat) (cols res : List Int), nextF f k r cols = some res → res.length = cols.length + r := by
    intro f n r
    induction r with
    | zero =>
      intro cols res h
      simp only [nextF] at h
      split at h
      · injection h with h; rw [h]; simp
      · cases h
    | succ r ih =>
      intro cols res h
      simp only [nextF] at h
      split at h
      · have aux2 : ∀ (q c : Nat), firstT (fun c => nextF f k r (cols ++ [(c : Int)])) q c = some res → res.length = cols.length + (r + 1) := by
          intro q
          induction q with
          | zero => intro c h; cases h
          | succ q iq =>
            intro c h
            simp only [firstT] at h
            split at h
            · rename_i e
              injection h with h
              subst h
              have := ih _ _ e
              simp at this
              omega
            · exact iq _ h
        exact aux2 _ _ h
      · cases h
  have := aux _ 0 _ _ _ h
  simpa using this
def fewF (m : List Int) : Nat → Nat → Int
  | 0, _ => 0
  | j + 1, n => if (colT m n).isSome = true then n else fewF m j (n + 1)
def few (m : List Int) : Int := if isMap m = true then fewF m 7 1 else -1
theorem FewestColoursS (m : List Int) (hm : (m.length : Int) ≤ 1048576) : ConS Try.prog 12 [.il m] (.i (few m)) := by
  refine conS_of hmix hTab Try.func12 rfl rfl (by kernel_rfl) (by show 1 ≤ Try.f12.ntmps; decide) rfl ?_
  unfold few
  (repeat ((conv => whnf); first | (refine And.intro (by first | omega | (dsimp only; omega) | with_reducible rfl | (simp; done) | (simp; omega) | rfl | exact .inl rfl | exact .inr rfl | (intro hq; simp at hq; done) | (show _ = _; kernel_rfl)) ?_) | (refine brT rfl ?_) | (refine brF rfl ?_) | (refine Exists.intro _ (And.intro rfl ?_)) | (refine Exists.intro _ (Exists.intro _ (And.intro rfl ?_))))); try (conv => whnf)
  refine .inl ⟨_, _, _, (IsMapS m hm).toT, ⟨⟨_, rfl, rfl⟩, trivial⟩, ?_⟩
  (repeat ((conv => whnf); first | (refine And.intro (by first | omega | (dsimp only; omega) | with_reducible rfl | (simp; done) | (simp; omega) | rfl | exact .inl rfl | exact .inr rfl | (intro hq; simp at hq; done) | (show _ = _; kernel_rfl)) ?_) | (refine brT rfl ?_) | (refine brF rfl ?_) | (refine Exists.intro _ (And.intro rfl ?_)) | (refine Exists.intro _ (Exists.intro _ (And.intro rfl ?_))))); try (conv => whnf)
  refine Br.mk (fun h => ?_) (fun h => ?_)
  · rw [if_neg (by simp at h; simp [h])]
    (repeat ((conv => whnf); first | (refine And.intro (by first | omega | (dsimp only; omega) | with_reducible rfl | (simp; done) | (simp; omega) | rfl | exact .inl rfl | exact .inr rfl | (intro hq; simp at hq; done) | (show _ = _; kernel_rfl)) ?_) | (refine brT rfl ?_) | (refine brF rfl ?_) | (refine Exists.intro _ (And.intro rfl ?_)) | (refine Exists.intro _ (Exists.intro _ (And.intro rfl ?_))))); try (conv => whnf)
  · simp only [Bool.not_eq_eq_eq_not, Bool.not_false] at h
    obtain ⟨h1, h2, h3, h4⟩ := isMap_facts h
    rw [if_pos h]
    (repeat ((conv => whnf); first | (refine And.intro (by first | omega | (dsimp only; omega) | with_reducible rfl | (simp; done) | (simp; omega) | rfl | exact .inl rfl | exact .inr rfl | (intro hq; simp at hq; done) | (show _ = _; kernel_rfl)) ?_) | (refine brT rfl ?_) | (refine brF rfl ?_) | (refine Exists.intro _ (And.intro rfl ?_)) | (refine Exists.intro _ (Exists.intro _ (And.intro rfl ?_))))); try (conv => whnf)
    refine ⟨Nat, fun i => 1 ≤ i ∧ i ≤ 8 ∧ fewF m (8 - i) i = fewF m 7 1, fun i => 8 - i, fun i => [(0, .il m), (3, .i i)], fun i => [], ⟨1, ⟨.frz [], [], ⟨rfl, rfl, trivial⟩, trivial, by decide, rfl, rfl, rfl⟩, by simp⟩, fun i ⟨hi1, hi, hc⟩ => ?_⟩
    (repeat ((conv => whnf); first | (refine And.intro (by first | omega | (dsimp only; omega) | with_reducible rfl | (simp; done) | (simp; omega) | rfl | exact .inl rfl | exact .inr rfl | (intro hq; simp at hq; done) | (show _ = _; kernel_rfl)) ?_) | (refine brT rfl ?_) | (refine brF rfl ?_) | (refine Exists.intro _ (And.intro rfl ?_)) | (refine Exists.intro _ (Exists.intro _ (And.intro rfl ?_))))); try (conv => whnf)
    refine Br.mk (fun h5 => ?_) (fun h5 => ?_) <;> simp [-Int.ofNat_toNat] at h5
    · have e1 : 8 - i = (8 - (i + 1)) + 1 := by omega
      rw [e1, fewF] at hc
      have hcall := FirstColouringS m i hm
      rw [show (if isMap m = true ∧ 1 ≤ (i : Int) ∧ (i : Int) ≤ 7 then colT m (i : Int).toNat else none) = colT m i by rw [if_pos ⟨h, by omega, by omega⟩, Int.toNat_natCast]] at hcall
      (repeat ((conv => whnf); first | (refine And.intro (by first | omega | (dsimp only; omega) | with_reducible rfl | (simp; done) | (simp; omega) | rfl | exact .inl rfl | exact .inr rfl | (intro hq; simp at hq; done) | (show _ = _; kernel_rfl)) ?_) | (refine brT rfl ?_) | (refine brF rfl ?_) | (refine Exists.intro _ (And.intro rfl ?_)) | (refine Exists.intro _ (Exists.intro _ (And.intro rfl ?_))))); try (conv => whnf)
      cases hx : colT m i with
      | some res =>
        rw [hx] at hcall hc
        simp only [Option.isSome_some, if_true] at hc
        have hl := colT_length hx
        have hp := cyc_pos (m := dualF m) (by rw [dualF_length]; omega)
        refine .inl ⟨_, _, _, hcall, ⟨⟨_, rfl, rfl⟩, rfl, trivial⟩, ?_⟩
        (repeat ((conv => whnf); first | (refine And.intro (by first | omega | (dsimp only; omega) | with_reducible rfl | (simp; done) | (simp; omega) | rfl | exact .inl rfl | exact .inr rfl | (intro hq; simp at hq; done) | (show _ = _; kernel_rfl)) ?_) | (refine brT rfl ?_) | (refine brF rfl ?_) | (refine Exists.intro _ (And.intro rfl ?_)) | (refine Exists.intro _ (Exists.intro _ (And.intro rfl ?_))))); try (conv => whnf)
        refine Br.mk (fun h6 => ?_) (fun h6 => ?_)
        · (repeat ((conv => whnf); first | (refine And.intro (by first | omega | (dsimp only; omega) | with_reducible rfl | (simp; done) | (simp; omega) | rfl | exact .inl rfl | exact .inr rfl | (intro hq; simp at hq; done) | (show _ = _; kernel_rfl)) ?_) | (refine brT rfl ?_) | (refine brF rfl ?_) | (refine Exists.intro _ (And.intro rfl ?_)) | (refine Exists.intro _ (Exists.intro _ (And.intro rfl ?_))))); try (conv => whnf)
          rw [hc]
        · simp at h6
          rw [h6] at hl
          simp at hl
          omega
      | none =>
        rw [hx] at hcall hc
        simp only [Option.isSome_none, Bool.false_eq_true, if_false] at hc
        refine .inl ⟨_, _, _, hcall, ⟨⟨_, rfl, rfl⟩, rfl, trivial⟩, ?_⟩
        (repeat ((conv => whnf); first | (refine And.intro (by first | omega | (dsimp only; omega) | with_reducible rfl | (simp; done) | (simp; omega) | rfl | exact .inl rfl | exact .inr rfl | (intro hq; simp at hq; done) | (show _ = _; kernel_rfl)) ?_) | (refine brT rfl ?_) | (refine brF rfl ?_) | (refine Exists.intro _ (And.intro rfl ?_)) | (refine Exists.intro _ (Exists.intro _ (And.intro rfl ?_))))); try (conv => whnf)
        exact ⟨i + 1, ⟨.frz [], [], ⟨rfl, rfl, trivial⟩, trivial, by decide, rfl, rfl, rfl⟩, ⟨by omega, by omega, hc⟩, by dsimp only; omega⟩
    · (repeat ((conv => whnf); first | (refine And.intro (by first | omega | (dsimp only; omega) | with_reducible rfl | (simp; done) | (simp; omega) | rfl | exact .inl rfl | exact .inr rfl | (intro hq; simp at hq; done) | (show _ = _; kernel_rfl)) ?_) | (refine brT rfl ?_) | (refine brF rfl ?_) | (refine Exists.intro _ (And.intro rfl ?_)) | (refine Exists.intro _ (Exists.intro _ (And.intro rfl ?_))))); try (conv => whnf)
      obtain rfl : i = 8 := by omega
      rw [← hc]
      rfl
theorem FewestColoursI (m : List Int) (hm : (m.length : Int) ≤ 1048576) : ConS Try.prog 13 [.il m] (.i (few m)) := by
  refine conS_of hmix hTab Try.func13 rfl rfl (by kernel_rfl) (by show 1 ≤ Try.f13.ntmps; decide) rfl ?_
  unfold few
  (repeat ((conv => whnf); first | (refine And.intro (by first | omega | (dsimp only; omega) | with_reducible rfl | (simp; done) | (simp; omega) | rfl | exact .inl rfl | exact .inr rfl | (intro hq; simp at hq; done) | (show _ = _; kernel_rfl)) ?_) | (refine brT rfl ?_) | (refine brF rfl ?_) | (refine Exists.intro _ (And.intro rfl ?_)) | (refine Exists.intro _ (Exists.intro _ (And.intro rfl ?_))))); try (conv => whnf)
  refine .inl ⟨_, _, _, (IsMapI m hm).toT, ⟨⟨_, rfl, rfl⟩, trivial⟩, ?_⟩
  (repeat ((conv => whnf); first | (refine And.intro (by first | omega | (dsimp only; omega) | with_reducible rfl | (simp; done) | (simp; omega) | rfl | exact .inl rfl | exact .inr rfl | (intro hq; simp at hq; done) | (show _ = _; kernel_rfl)) ?_) | (refine brT rfl ?_) | (refine brF rfl ?_) | (refine Exists.intro _ (And.intro rfl ?_)) | (refine Exists.intro _ (Exists.intro _ (And.intro rfl ?_))))); try (conv => whnf)
  refine Br.mk (fun h => ?_) (fun h => ?_)
  · rw [if_neg (by simp at h; simp [h])]
    (repeat ((conv => whnf); first | (refine And.intro (by first | omega | (dsimp only; omega) | with_reducible rfl | (simp; done) | (simp; omega) | rfl | exact .inl rfl | exact .inr rfl | (intro hq; simp at hq; done) | (show _ = _; kernel_rfl)) ?_) | (refine brT rfl ?_) | (refine brF rfl ?_) | (refine Exists.intro _ (And.intro rfl ?_)) | (refine Exists.intro _ (Exists.intro _ (And.intro rfl ?_))))); try (conv => whnf)
  · simp only [Bool.not_eq_eq_eq_not, Bool.not_false] at h
    obtain ⟨h1, h2, h3, h4⟩ := isMap_facts h
    rw [if_pos h]
    (repeat ((conv => whnf); first | (refine And.intro (by first | omega | (dsimp only; omega) | with_reducible rfl | (simp; done) | (simp; omega) | rfl | exact .inl rfl | exact .inr rfl | (intro hq; simp at hq; done) | (show _ = _; kernel_rfl)) ?_) | (refine brT rfl ?_) | (refine brF rfl ?_) | (refine Exists.intro _ (And.intro rfl ?_)) | (refine Exists.intro _ (Exists.intro _ (And.intro rfl ?_))))); try (conv => whnf)
    refine ⟨Nat, fun i => 1 ≤ i ∧ i ≤ 8 ∧ fewF m (8 - i) i = fewF m 7 1, fun i => 8 - i, fun i => [(0, .il m), (3, .i i)], fun i => [], ⟨1, ⟨.frz [], [], ⟨rfl, rfl, trivial⟩, trivial, by decide, rfl, rfl, rfl⟩, by simp⟩, fun i ⟨hi1, hi, hc⟩ => ?_⟩
    (repeat ((conv => whnf); first | (refine And.intro (by first | omega | (dsimp only; omega) | with_reducible rfl | (simp; done) | (simp; omega) | rfl | exact .inl rfl | exact .inr rfl | (intro hq; simp at hq; done) | (show _ = _; kernel_rfl)) ?_) | (refine brT rfl ?_) | (refine brF rfl ?_) | (refine Exists.intro _ (And.intro rfl ?_)) | (refine Exists.intro _ (Exists.intro _ (And.intro rfl ?_))))); try (conv => whnf)
    refine Br.mk (fun h5 => ?_) (fun h5 => ?_) <;> simp [-Int.ofNat_toNat] at h5
    · have e1 : 8 - i = (8 - (i + 1)) + 1 := by omega
      rw [e1, fewF] at hc
      have hcall := colouring m i (by omega) h1 h3 h4
      rw [colI_colT h3] at hcall
      (repeat ((conv => whnf); first | (refine And.intro (by first | omega | (dsimp only; omega) | with_reducible rfl | (simp; done) | (simp; omega) | rfl | exact .inl rfl | exact .inr rfl | (intro hq; simp at hq; done) | (show _ = _; kernel_rfl)) ?_) | (refine brT rfl ?_) | (refine brF rfl ?_) | (refine Exists.intro _ (And.intro rfl ?_)) | (refine Exists.intro _ (Exists.intro _ (And.intro rfl ?_))))); try (conv => whnf)
      cases hx : colT m i with
      | some res =>
        rw [hx] at hcall hc
        simp only [Option.isSome_some, if_true] at hc
        refine .inl ⟨_, _, _, hcall, ⟨⟨_, rfl, rfl⟩, rfl, trivial⟩, ?_⟩
        (repeat ((conv => whnf); first | (refine And.intro (by first | omega | (dsimp only; omega) | with_reducible rfl | (simp; done) | (simp; omega) | rfl | exact .inl rfl | exact .inr rfl | (intro hq; simp at hq; done) | (show _ = _; kernel_rfl)) ?_) | (refine brT rfl ?_) | (refine brF rfl ?_) | (refine Exists.intro _ (And.intro rfl ?_)) | (refine Exists.intro _ (Exists.intro _ (And.intro rfl ?_))))); try (conv => whnf)
        rw [hc]
      | none =>
        rw [hx] at hcall hc
        simp only [Option.isSome_none, Bool.false_eq_true, if_false] at hc
        refine .inl ⟨_, _, _, hcall, ⟨⟨_, rfl, rfl⟩, rfl, trivial⟩, ?_⟩
        (repeat ((conv => whnf); first | (refine And.intro (by first | omega | (dsimp only; omega) | with_reducible rfl | (simp; done) | (simp; omega) | rfl | exact .inl rfl | exact .inr rfl | (intro hq; simp at hq; done) | (show _ = _; kernel_rfl)) ?_) | (refine brT rfl ?_) | (refine brF rfl ?_) | (refine Exists.intro _ (And.intro rfl ?_)) | (refine Exists.intro _ (Exists.intro _ (And.intro rfl ?_))))); try (conv => whnf)
        exact ⟨i + 1, ⟨.frz [], [], ⟨rfl, rfl, trivial⟩, trivial, by decide, rfl, rfl, rfl⟩, ⟨by omega, by omega, hc⟩, by dsimp only; omega⟩
    · (repeat ((conv => whnf); first | (refine And.intro (by first | omega | (dsimp only; omega) | with_reducible rfl | (simp; done) | (simp; omega) | rfl | exact .inl rfl | exact .inr rfl | (intro hq; simp at hq; done) | (show _ = _; kernel_rfl)) ?_) | (refine brT rfl ?_) | (refine brF rfl ?_) | (refine Exists.intro _ (And.intro rfl ?_)) | (refine Exists.intro _ (Exists.intro _ (And.intro rfl ?_))))); try (conv => whnf)
      obtain rfl : i = 8 := by omega
      rw [← hc]
      rfl
theorem lawFewestColours (m : List Int) : ConS Try.prog 4 [.il m] (.b true) := by
  refine conS_of hmix hTab Try.func4 rfl rfl (by kernel_rfl) (by show 1 ≤ Try.f4.ntmps; decide) rfl ?_
  (repeat ((conv => whnf); first | (refine And.intro (by first | omega | (dsimp only; omega) | with_reducible rfl | (simp; done) | (simp; omega) | rfl | exact .inl rfl | exact .inr rfl | (intro hq; simp at hq; done) | (show _ = _; kernel_rfl)) ?_) | (refine brT rfl ?_) | (refine brF rfl ?_) | (refine Exists.intro _ (And.intro rfl ?_)) | (refine Exists.intro _ (Exists.intro _ (And.intro rfl ?_))))); try (conv => whnf)
  refine Br.mk (fun h1 => ?_) (fun h1 => ?_) <;> simp [-Int.ofNat_toNat] at h1
  · (repeat ((conv => whnf); first | (refine And.intro (by first | omega | (dsimp only; omega) | with_reducible rfl | (simp; done) | (simp; omega) | rfl | exact .inl rfl | exact .inr rfl | (intro hq; simp at hq; done) | (show _ = _; kernel_rfl)) ?_) | (refine brT rfl ?_) | (refine brF rfl ?_) | (refine Exists.intro _ (And.intro rfl ?_)) | (refine Exists.intro _ (Exists.intro _ (And.intro rfl ?_))))); try (conv => whnf)
  · (repeat ((conv => whnf); first | (refine And.intro (by first | omega | (dsimp only; omega) | with_reducible rfl | (simp; done) | (simp; omega) | rfl | exact .inl rfl | exact .inr rfl | (intro hq; simp at hq; done) | (show _ = _; kernel_rfl)) ?_) | (refine brT rfl ?_) | (refine brF rfl ?_) | (refine Exists.intro _ (And.intro rfl ?_)) | (refine Exists.intro _ (Exists.intro _ (And.intro rfl ?_))))); try (conv => whnf)
    refine .inl ⟨_, _, _, toIntS m (by omega), ⟨⟨_, rfl, rfl⟩, trivial⟩, ?_⟩
    (repeat ((conv => whnf); first | (refine And.intro (by first | omega | (dsimp only; omega) | with_reducible rfl | (simp; done) | (simp; omega) | rfl | exact .inl rfl | exact .inr rfl | (intro hq; simp at hq; done) | (show _ = _; kernel_rfl)) ?_) | (refine brT rfl ?_) | (refine brF rfl ?_) | (refine Exists.intro _ (And.intro rfl ?_)) | (refine Exists.intro _ (Exists.intro _ (And.intro rfl ?_))))); try (conv => whnf)
    refine .inl ⟨_, _, _, (FewestColoursS m (by omega)).toT, ⟨⟨_, _, rfl, by simp, by simp⟩, trivial⟩, ?_⟩
    (repeat ((conv => whnf); first | (refine And.intro (by first | omega | (dsimp only; omega) | with_reducible rfl | (simp; done) | (simp; omega) | rfl | exact .inl rfl | exact .inr rfl | (intro hq; simp at hq; done) | (show _ = _; kernel_rfl)) ?_) | (refine brT rfl ?_) | (refine brF rfl ?_) | (refine Exists.intro _ (And.intro rfl ?_)) | (refine Exists.intro _ (Exists.intro _ (And.intro rfl ?_))))); try (conv => whnf)
    refine .inl ⟨_, _, _, toIntS m (by omega), ⟨⟨_, rfl, rfl⟩, trivial⟩, ?_⟩
    (repeat ((conv => whnf); first | (refine And.intro (by first | omega | (dsimp only; omega) | with_reducible rfl | (simp; done) | (simp; omega) | rfl | exact .inl rfl | exact .inr rfl | (intro hq; simp at hq; done) | (show _ = _; kernel_rfl)) ?_) | (refine brT rfl ?_) | (refine brF rfl ?_) | (refine Exists.intro _ (And.intro rfl ?_)) | (refine Exists.intro _ (Exists.intro _ (And.intro rfl ?_))))); try (conv => whnf)
    refine .inl ⟨_, _, _, (FewestColoursI m (by omega)).toT, ⟨⟨_, _, rfl, by simp, by simp⟩, trivial⟩, ?_⟩
    (repeat ((conv => whnf); first | (refine And.intro (by first | omega | (dsimp only; omega) | with_reducible rfl | (simp; done) | (simp; omega) | rfl | exact .inl rfl | exact .inr rfl | (intro hq; simp at hq; done) | (show _ = _; kernel_rfl)) ?_) | (refine brT rfl ?_) | (refine brF rfl ?_) | (refine Exists.intro _ (And.intro rfl ?_)) | (refine Exists.intro _ (Exists.intro _ (And.intro rfl ?_))))); try (conv => whnf)
    refine Br.mk (fun h3 => ?_) (fun h3 => ?_) <;> simp [-Int.ofNat_toNat] at h3
    (repeat ((conv => whnf); first | (refine And.intro (by first | omega | (dsimp only; omega) | with_reducible rfl | (simp; done) | (simp; omega) | rfl | exact .inl rfl | exact .inr rfl | (intro hq; simp at hq; done) | (show _ = _; kernel_rfl)) ?_) | (refine brT rfl ?_) | (refine brF rfl ?_) | (refine Exists.intro _ (And.intro rfl ?_)) | (refine Exists.intro _ (Exists.intro _ (And.intro rfl ?_))))); try (conv => whnf)
    refine .inl ⟨_, _, _, toIntS m (by omega), ⟨⟨_, rfl, rfl⟩, trivial⟩, ?_⟩
    (repeat ((conv => whnf); first | (refine And.intro (by first | omega | (dsimp only; omega) | with_reducible rfl | (simp; done) | (simp; omega) | rfl | exact .inl rfl | exact .inr rfl | (intro hq; simp at hq; done) | (show _ = _; kernel_rfl)) ?_) | (refine brT rfl ?_) | (refine brF rfl ?_) | (refine Exists.intro _ (And.intro rfl ?_)) | (refine Exists.intro _ (Exists.intro _ (And.intro rfl ?_))))); try (conv => whnf)
    refine .inl ⟨_, _, _, (eqIntS m m (by omega)).toT, ⟨⟨_, _, rfl, by simp, by simp⟩, ⟨_, _, rfl, by simp, by simp⟩, trivial⟩, ?_⟩
    (repeat ((conv => whnf); first | (refine And.intro (by first | omega | (dsimp only; omega) | with_reducible rfl | (simp; done) | (simp; omega) | rfl | exact .inl rfl | exact .inr rfl | (intro hq; simp at hq; done) | (show _ = _; kernel_rfl)) ?_) | (refine brT rfl ?_) | (refine brF rfl ?_) | (refine Exists.intro _ (And.intro rfl ?_)) | (refine Exists.intro _ (Exists.intro _ (And.intro rfl ?_))))); try (conv => whnf)
    refine Br.mk (fun h4 => ?_) (fun h4 => ?_) <;> simp [-Int.ofNat_toNat] at h4
    (repeat ((conv => whnf); first | (refine And.intro (by first | omega | (dsimp only; omega) | with_reducible rfl | (simp; done) | (simp; omega) | rfl | exact .inl rfl | exact .inr rfl | (intro hq; simp at hq; done) | (show _ = _; kernel_rfl)) ?_) | (refine brT rfl ?_) | (refine brF rfl ?_) | (refine Exists.intro _ (And.intro rfl ?_)) | (refine Exists.intro _ (Exists.intro _ (And.intro rfl ?_))))); try (conv => whnf)
end Go.Proofs.YtbcdcbamdahnpaaTv
end
