/- What functions of the program give: each contract holds for all arguments that its own sentence names. -/
import Derived.Test.YtbcdcbamdahnpaaTv4
import Derived.Test.YtbcdcbamdahnpaaProg
set_option linter.unusedVariables false
set_option linter.unusedSimpArgs false
section
open Go Go.Proofs.YtbcdcbamdahnpaaVe Go.Proofs.YtbcdcbamdahnpaaTv Go.Proofs
namespace Go.Proofs.YtbcdcbamdahnpaaTv
set_option maxRecDepth 8000
set_option maxHeartbeats 2000000
def tab : List (Nat × TE) := [(1, ⟨.fnil, .other, 8⟩), (3, ⟨.int .i64, .int .i64, 8⟩), (4, ⟨.bool, .bool, 1⟩), (5, ⟨.int .u8, .int .u8, 1⟩), (9, ⟨.str, .str, 16⟩), (22, ⟨.list (.int .i64), .sl 3, 24⟩), (23, ⟨.fnil, .other, 8⟩), (24, ⟨.fnil, .other, 8⟩), (25, ⟨.fnil, .other, 8⟩), (26, ⟨.fnil, .other, 8⟩), (27, ⟨.fnil, .other, 8⟩), (28, ⟨.fnil, .other, 8⟩), (29, ⟨.fnil, .other, 8⟩), (30, ⟨.list (.int .u8), .sl 5, 24⟩), (31, ⟨.fnil, .other, 8⟩), (33, ⟨.fnil, .other, 8⟩), (35, ⟨.fnil, .other, 8⟩), (37, ⟨.pair (.int .i64) (.pair (.int .i64) (.pair (.int .i64) (.unit))), .st [(0, 1), (1, 1), (2, 1)], 24⟩), (38, ⟨.fnil, .other, 8⟩), (39, ⟨.fnil, .other, 8⟩), (40, ⟨.fnil, .other, 8⟩), (41, ⟨.fnil, .other, 8⟩), (43, ⟨.fnil, .other, 8⟩), (44, ⟨.list (.list (.pair (.int .i64) (.pair (.int .i64) (.pair (.int .i64) (.unit))))), .sl 49, 24⟩), (45, ⟨.fnil, .other, 8⟩), (47, ⟨.fnil, .other, 8⟩), (48, ⟨.fnil, .other, 8⟩), (49, ⟨.list (.pair (.int .i64) (.pair (.int .i64) (.pair (.int .i64) (.unit)))), .sl 37, 24⟩), (50, ⟨.fnil, .other, 8⟩), (51, ⟨.fnil, .other, 8⟩), (52, ⟨.fnil, .other, 8⟩), (53, ⟨.list (.list (.int .i64)), .sl 22, 24⟩), (54, ⟨.fnil, .other, 8⟩), (55, ⟨.fnil, .other, 8⟩), (56, ⟨.fnil, .other, 8⟩), (58, ⟨.fnil, .other, 8⟩), (60, ⟨.fnil, .other, 8⟩), (61, ⟨.fnil, .other, 8⟩), (62, ⟨.fnil, .other, 8⟩), (63, ⟨.fnil, .other, 8⟩), (64, ⟨.fnil, .other, 8⟩), (65, ⟨.fnil, .other, 8⟩), (66, ⟨.fnil, .other, 8⟩), (69, ⟨.fnil, .other, 8⟩), (70, ⟨.fnil, .other, 8⟩), (71, ⟨.fnil, .other, 8⟩), (72, ⟨.list (.bool), .sl 4, 24⟩), (73, ⟨.fnil, .other, 8⟩), (74, ⟨.int .u64, .int .u64, 8⟩), (75, ⟨.fnil, .other, 8⟩), (76, ⟨.fnil, .other, 8⟩), (82, ⟨.fnil, .other, 8⟩), (86, ⟨.fnil, .other, 8⟩)]
theorem hmix : Try.prog.follows .mixedOrders = true := by kernel_rfl
theorem hTab : TabOk Try.prog tab := fun t e h => by
  refine tabAll_ok (l := tab) ?_ t e h
  refine ⟨⟨by kernel_rfl, trivial⟩, ⟨by kernel_rfl, rfl⟩, ⟨by kernel_rfl, trivial⟩, ⟨by kernel_rfl, rfl⟩, ⟨by kernel_rfl, trivial⟩, ⟨by kernel_rfl, _, rfl, rfl, by decide, by decide, by decide⟩, ⟨by kernel_rfl, trivial⟩, ⟨by kernel_rfl, trivial⟩, ⟨by kernel_rfl, trivial⟩, ⟨by kernel_rfl, trivial⟩, ⟨by kernel_rfl, trivial⟩, ⟨by kernel_rfl, trivial⟩, ⟨by kernel_rfl, trivial⟩, ⟨by kernel_rfl, _, rfl, rfl, by decide, by decide, by decide⟩, ⟨by kernel_rfl, trivial⟩, ⟨by kernel_rfl, trivial⟩, ⟨by kernel_rfl, trivial⟩, ⟨by kernel_rfl, trivial⟩, ⟨by kernel_rfl, trivial⟩, ⟨by kernel_rfl, trivial⟩, ⟨by kernel_rfl, trivial⟩, ⟨by kernel_rfl, trivial⟩, ⟨by kernel_rfl, trivial⟩, ⟨by kernel_rfl, _, rfl, rfl, by decide, by decide, by decide⟩, ⟨by kernel_rfl, trivial⟩, ⟨by kernel_rfl, trivial⟩, ⟨by kernel_rfl, trivial⟩, ⟨by kernel_rfl, _, rfl, rfl, by decide, by decide, by decide⟩, ⟨by kernel_rfl, trivial⟩, ⟨by kernel_rfl, trivial⟩, ⟨by kernel_rfl, trivial⟩, ⟨by kernel_rfl, _, rfl, rfl, by decide, by decide, by decide⟩, ⟨by kernel_rfl, trivial⟩, ⟨by kernel_rfl, trivial⟩, ⟨by kernel_rfl, trivial⟩, ⟨by kernel_rfl, trivial⟩, ⟨by kernel_rfl, trivial⟩, ⟨by kernel_rfl, trivial⟩, ⟨by kernel_rfl, trivial⟩, ⟨by kernel_rfl, trivial⟩, ⟨by kernel_rfl, trivial⟩, ⟨by kernel_rfl, trivial⟩, ⟨by kernel_rfl, trivial⟩, ⟨by kernel_rfl, trivial⟩, ⟨by kernel_rfl, trivial⟩, ⟨by kernel_rfl, trivial⟩, ⟨by kernel_rfl, _, rfl, rfl, by decide, by decide, by decide⟩, ⟨by kernel_rfl, trivial⟩, ⟨by kernel_rfl, rfl⟩, ⟨by kernel_rfl, trivial⟩, ⟨by kernel_rfl, trivial⟩, ⟨by kernel_rfl, trivial⟩, ⟨by kernel_rfl, trivial⟩, trivial⟩
theorem l1In (a lo hi : Int) : ConS Try.prog 59 [.i a, .i lo, .i hi] (.b (decide (lo ≤ a ∧ a ≤ hi))) := by
  refine conS_of hmix hTab Try.func59 rfl rfl (by kernel_rfl) (by show 3 ≤ Try.f59.ntmps; decide) rfl ?_
  (repeat ((conv => whnf); first | (refine And.intro (by first | omega | (dsimp only; omega) | with_reducible rfl | (simp; done) | (simp; omega) | rfl | exact .inl rfl | exact .inr rfl | (intro hq; simp at hq; done) | (show _ = _; kernel_rfl)) ?_) | (refine brT rfl ?_) | (refine brF rfl ?_) | (refine Exists.intro _ (And.intro rfl ?_)) | (refine Exists.intro _ (Exists.intro _ (And.intro rfl ?_))))); try (conv => whnf)
  refine Br.mk (fun h => ?_) (fun h => ?_)
  all_goals (repeat ((conv => whnf); first | (refine And.intro (by first | omega | (dsimp only; omega) | with_reducible rfl | (simp; done) | (simp; omega) | rfl | exact .inl rfl | exact .inr rfl | (intro hq; simp at hq; done) | (show _ = _; kernel_rfl)) ?_) | (refine brT rfl ?_) | (refine brF rfl ?_) | (refine Exists.intro _ (And.intro rfl ?_)) | (refine Exists.intro _ (Exists.intro _ (And.intro rfl ?_))))); try (conv => whnf)
  all_goals (simp at h; simp [h])
  omega
theorem within (a lo hi : Int) : ConS Try.prog 61 [.i a, .i lo, .i hi] (.b (decide (lo ≤ a ∧ a ≤ hi))) := by
  refine conS_of hmix hTab Try.func61 rfl rfl (by kernel_rfl) (by show 3 ≤ Try.f61.ntmps; decide) rfl ?_
  (repeat ((conv => whnf); first | (refine And.intro (by first | omega | (dsimp only; omega) | with_reducible rfl | (simp; done) | (simp; omega) | rfl | exact .inl rfl | exact .inr rfl | (intro hq; simp at hq; done) | (show _ = _; kernel_rfl)) ?_) | (refine brT rfl ?_) | (refine brF rfl ?_) | (refine Exists.intro _ (And.intro rfl ?_)) | (refine Exists.intro _ (Exists.intro _ (And.intro rfl ?_))))); try (conv => whnf)
  refine Br.mk (fun h => ?_) (fun h => ?_)
  all_goals (repeat ((conv => whnf); first | (refine And.intro (by first | omega | (dsimp only; omega) | with_reducible rfl | (simp; done) | (simp; omega) | rfl | exact .inl rfl | exact .inr rfl | (intro hq; simp at hq; done) | (show _ = _; kernel_rfl)) ?_) | (refine brT rfl ?_) | (refine brF rfl ?_) | (refine Exists.intro _ (And.intro rfl ?_)) | (refine Exists.intro _ (Exists.intro _ (And.intro rfl ?_))))); try (conv => whnf)
  all_goals (simp at h; simp [h])
  omega
theorem l1Bit (b : Bool) : ConS Try.prog 92 [.b b] (.i (if b = true then 1 else 0)) := by
  refine conS_of hmix hTab Try.func92 rfl rfl (by kernel_rfl) (by show 1 ≤ Try.f92.ntmps; decide) rfl ?_
  (repeat ((conv => whnf); first | (refine And.intro (by first | omega | (dsimp only; omega) | with_reducible rfl | (simp; done) | (simp; omega) | rfl | exact .inl rfl | exact .inr rfl | (intro hq; simp at hq; done) | (show _ = _; kernel_rfl)) ?_) | (refine brT rfl ?_) | (refine brF rfl ?_) | (refine Exists.intro _ (And.intro rfl ?_)) | (refine Exists.intro _ (Exists.intro _ (And.intro rfl ?_))))); try (conv => whnf)
  refine Br.mk (fun h => ?_) (fun h => ?_)
  all_goals (repeat ((conv => whnf); first | (refine And.intro (by first | omega | (dsimp only; omega) | with_reducible rfl | (simp; done) | (simp; omega) | rfl | exact .inl rfl | exact .inr rfl | (intro hq; simp at hq; done) | (show _ = _; kernel_rfl)) ?_) | (refine brT rfl ?_) | (refine brF rfl ?_) | (refine Exists.intro _ (And.intro rfl ?_)) | (refine Exists.intro _ (Exists.intro _ (And.intro rfl ?_))))); try (conv => whnf)
  all_goals simp [h, constV]
theorem toIntS (l : List Int) (hl : (l.length : Int) ≤ 1048576) : ConT Try.prog 9 [.il l] (.own 0 0 l.length) [.arr (.int .i64) l true] := by
  refine conT_of hmix hTab Try.func9 rfl rfl (by kernel_rfl) (by show 1 ≤ Try.f9.ntmps; decide) ?_
  (repeat ((conv => whnf); first | (refine And.intro (by first | omega | (dsimp only; omega) | with_reducible rfl | (simp; done) | (simp; omega) | rfl | exact .inl rfl | exact .inr rfl | (intro hq; simp at hq; done) | (show _ = _; kernel_rfl)) ?_) | (refine brT rfl ?_) | (refine brF rfl ?_) | (refine Exists.intro _ (And.intro rfl ?_)) | (refine Exists.intro _ (Exists.intro _ (And.intro rfl ?_))))); try (conv => whnf)
  refine ⟨Nat, fun i => i ≤ l.length, fun i => l.length - i, fun i => [(0, .il l), (3, .own 0 0 l.length), (4, .i i)], fun i => [.arr (.int .i64) (l.take i ++ List.replicate (l.length - i) 0) true], ⟨0, ⟨.frz [], [0], ⟨rfl, rfl, rfl, trivial⟩, ⟨rfl, trivial⟩, by decide, rfl, rfl, rfl⟩, Nat.zero_le _⟩, fun i hi => ?_⟩
  (repeat ((conv => whnf); first | (refine And.intro (by first | omega | (dsimp only; omega) | with_reducible rfl | (simp; done) | (simp; omega) | rfl | exact .inl rfl | exact .inr rfl | (intro hq; simp at hq; done) | (show _ = _; kernel_rfl)) ?_) | (refine brT rfl ?_) | (refine brF rfl ?_) | (refine Exists.intro _ (And.intro rfl ?_)) | (refine Exists.intro _ (Exists.intro _ (And.intro rfl ?_))))); try (conv => whnf)
  refine Br.mk (fun h => ?_) (fun h => ?_) <;> simp at h
  · (repeat ((conv => whnf); first | (refine And.intro (by first | omega | (dsimp only; omega) | with_reducible rfl | (simp; done) | (simp; omega) | rfl | exact .inl rfl | exact .inr rfl | (intro hq; simp at hq; done) | (show _ = _; kernel_rfl)) ?_) | (refine brT rfl ?_) | (refine brF rfl ?_) | (refine Exists.intro _ (And.intro rfl ?_)) | (refine Exists.intro _ (Exists.intro _ (And.intro rfl ?_))))); try (conv => whnf)
    refine ⟨i + 1, ⟨.frz [], [0], ⟨rfl, rfl, rfl, trivial⟩, ⟨?_, trivial⟩, by decide, rfl, rfl, rfl⟩, h, by dsimp only; omega⟩
    refine congrArg (fun x => some (Obj.arr (.int .i64) x true)) ?_
    have := fill_step id l (0 : Int) rfl (rd_get (l := l) (i := (i : Int)) (by simpa using h))
    simpa using this
  · (repeat ((conv => whnf); first | (refine And.intro (by first | omega | (dsimp only; omega) | with_reducible rfl | (simp; done) | (simp; omega) | rfl | exact .inl rfl | exact .inr rfl | (intro hq; simp at hq; done) | (show _ = _; kernel_rfl)) ?_) | (refine brT rfl ?_) | (refine brF rfl ?_) | (refine Exists.intro _ (And.intro rfl ?_)) | (refine Exists.intro _ (Exists.intro _ (And.intro rfl ?_))))); try (conv => whnf)
    obtain rfl : i = l.length := Nat.le_antisymm hi h
    exact ⟨.frz [], [0], ⟨rfl, trivial⟩, ⟨by simp [Obj.ren, frzI], trivial⟩, by decide, rfl, rfl, rfl⟩
end Go.Proofs.YtbcdcbamdahnpaaTv
end
section
open Go Go.Proofs.YtbcdcbamdahnpaaVe Go.Proofs.YtbcdcbamdahnpaaTv Go.Proofs
namespace Go.Proofs.YtbcdcbamdahnpaaTv
set_option maxRecDepth 8000
set_option maxHeartbeats 2000000
/-- A law's own checks: rows that are equal. -/
theorem ConS.toT {P : Program} {f : Nat} {args : List V} {rs : V} (h : ConS P f args rs) : ConT P f args rs [] := by
  obtain ⟨h1, h2, h3⟩ := h
  refine ⟨h2, fun m s avs hno hs hS hv => (h3 m s avs hno hs hS hv).mono fun av H' ⟨e1, e2⟩ => ⟨m, e2.symm, hS, Kp.refl m [], Fr.refl m s, ?_⟩⟩
  rw [e1]; exact scal_vt m [] rs h1
theorem eqIntS (l m : List Int) (hl : (l.length : Int) ≤ 274877906944) : ConS Try.prog 11 [.il l, .il m] (.b (decide (l = m))) := by
  refine conS_of hmix hTab Try.func11 rfl rfl (by kernel_rfl) (by show 2 ≤ Try.f11.ntmps; decide) rfl ?_
  (repeat ((conv => whnf); first | (refine And.intro (by first | omega | (dsimp only; omega) | with_reducible rfl | (simp; done) | (simp; omega) | rfl | exact .inl rfl | exact .inr rfl | (intro hq; simp at hq; done) | (show _ = _; kernel_rfl)) ?_) | (refine brT rfl ?_) | (refine brF rfl ?_) | (refine Exists.intro _ (And.intro rfl ?_)) | (refine Exists.intro _ (Exists.intro _ (And.intro rfl ?_))))); try (conv => whnf)
  refine Br.mk (fun h => ?_) (fun h => ?_) <;> simp at h
  · (repeat ((conv => whnf); first | (refine And.intro (by first | omega | (dsimp only; omega) | with_reducible rfl | (simp; done) | (simp; omega) | rfl | exact .inl rfl | exact .inr rfl | (intro hq; simp at hq; done) | (show _ = _; kernel_rfl)) ?_) | (refine brT rfl ?_) | (refine brF rfl ?_) | (refine Exists.intro _ (And.intro rfl ?_)) | (refine Exists.intro _ (Exists.intro _ (And.intro rfl ?_))))); try (conv => whnf)
    have : l ≠ m := fun e => h (by rw [e])
    simp [this]
  · (repeat ((conv => whnf); first | (refine And.intro (by first | omega | (dsimp only; omega) | with_reducible rfl | (simp; done) | (simp; omega) | rfl | exact .inl rfl | exact .inr rfl | (intro hq; simp at hq; done) | (show _ = _; kernel_rfl)) ?_) | (refine brT rfl ?_) | (refine brF rfl ?_) | (refine Exists.intro _ (And.intro rfl ?_)) | (refine Exists.intro _ (Exists.intro _ (And.intro rfl ?_))))); try (conv => whnf)
    refine ⟨Nat, fun i => i ≤ l.length ∧ ∀ k, k < i → rd l k = rd m k, fun i => l.length - i, fun i => [(0, .il l), (1, .il m), (5, .i i)], fun i => [], ⟨0, ⟨.frz [], [], ⟨rfl, rfl, rfl, trivial⟩, trivial, by decide, rfl, rfl, rfl⟩, by simp⟩, fun i ⟨hi, hk⟩ => ?_⟩
    (repeat ((conv => whnf); first | (refine And.intro (by first | omega | (dsimp only; omega) | with_reducible rfl | (simp; done) | (simp; omega) | rfl | exact .inl rfl | exact .inr rfl | (intro hq; simp at hq; done) | (show _ = _; kernel_rfl)) ?_) | (refine brT rfl ?_) | (refine brF rfl ?_) | (refine Exists.intro _ (And.intro rfl ?_)) | (refine Exists.intro _ (Exists.intro _ (And.intro rfl ?_))))); try (conv => whnf)
    refine Br.mk (fun h1 => ?_) (fun h1 => ?_) <;> simp at h1
    · (repeat ((conv => whnf); first | (refine And.intro (by first | omega | (dsimp only; omega) | with_reducible rfl | (simp; done) | (simp; omega) | rfl | exact .inl rfl | exact .inr rfl | (intro hq; simp at hq; done) | (show _ = _; kernel_rfl)) ?_) | (refine brT rfl ?_) | (refine brF rfl ?_) | (refine Exists.intro _ (And.intro rfl ?_)) | (refine Exists.intro _ (Exists.intro _ (And.intro rfl ?_))))); try (conv => whnf)
      refine Br.mk (fun h2 => ?_) (fun h2 => ?_) <;> simp at h2
      · (repeat ((conv => whnf); first | (refine And.intro (by first | omega | (dsimp only; omega) | with_reducible rfl | (simp; done) | (simp; omega) | rfl | exact .inl rfl | exact .inr rfl | (intro hq; simp at hq; done) | (show _ = _; kernel_rfl)) ?_) | (refine brT rfl ?_) | (refine brF rfl ?_) | (refine Exists.intro _ (And.intro rfl ?_)) | (refine Exists.intro _ (Exists.intro _ (And.intro rfl ?_))))); try (conv => whnf)
        have : l ≠ m := fun e => h2 (by rw [e])
        simp [this]
      · (repeat ((conv => whnf); first | (refine And.intro (by first | omega | (dsimp only; omega) | with_reducible rfl | (simp; done) | (simp; omega) | rfl | exact .inl rfl | exact .inr rfl | (intro hq; simp at hq; done) | (show _ = _; kernel_rfl)) ?_) | (refine brT rfl ?_) | (refine brF rfl ?_) | (refine Exists.intro _ (And.intro rfl ?_)) | (refine Exists.intro _ (Exists.intro _ (And.intro rfl ?_))))); try (conv => whnf)
        refine ⟨i + 1, ⟨.frz [], [], ⟨rfl, rfl, rfl, trivial⟩, trivial, by decide, rfl, rfl, rfl⟩, ⟨h1, fun k hk1 => ?_⟩, by dsimp only; omega⟩
        by_cases e : k = i
        · rw [e]; exact h2
        · exact hk k (by omega)
    · (repeat ((conv => whnf); first | (refine And.intro (by first | omega | (dsimp only; omega) | with_reducible rfl | (simp; done) | (simp; omega) | rfl | exact .inl rfl | exact .inr rfl | (intro hq; simp at hq; done) | (show _ = _; kernel_rfl)) ?_) | (refine brT rfl ?_) | (refine brF rfl ?_) | (refine Exists.intro _ (And.intro rfl ?_)) | (refine Exists.intro _ (Exists.intro _ (And.intro rfl ?_))))); try (conv => whnf)
      have : l = m := by
        refine List.ext_getElem (by omega) fun k h2 h3 => ?_
        have := hk k (by omega)
        simpa [rd, h2, h3] using this
      simp [this]
end Go.Proofs.YtbcdcbamdahnpaaTv
end
section
open Go Go.Proofs.YtbcdcbamdahnpaaVe Go.Proofs.YtbcdcbamdahnpaaTv Go.Proofs
namespace Go.Proofs.YtbcdcbamdahnpaaTv
set_option maxRecDepth 8000
set_option maxHeartbeats 2000000
/-- Whether a list has each number below n once; s: the numbers that were seen. -/
def permF (n : Nat) : List Int → List Bool → Bool
  | [], _ => true
  | x :: r, s => if 0 ≤ x ∧ x ≤ (n : Int) - 1 then (if s.getD x.toNat false = true then false else permF n r (s.set x.toNat true)) else false
theorem permF_in {n : Nat} : ∀ {m : List Int} {s : List Bool}, permF n m s = true → ∀ i : Nat, i < m.length → 0 ≤ rd m i ∧ rd m i < n
  | [], _, _, i, hi => by simp at hi
  | x :: r, s, h, i, hi => by
    unfold permF at h
    split at h
    · rename_i hx
      split at h
      · cases h
      · cases i with
        | zero => simp [rd]; omega
        | succ i => have := permF_in h i (by simpa using hi); simpa [rd] using this
    · cases h
def isPerm (m : List Int) : Bool := permF m.length m (List.replicate m.length false)
theorem drop_cons {l : List Int} {i : Nat} (h : i < l.length) : l.drop i = rd l i :: l.drop (i + 1) := by
  rw [List.drop_eq_getElem_cons h]
  simp [rd, h]
theorem l6Perm (m : List Int) (hm : (m.length : Int) ≤ 1048576) : ConS Try.prog 78 [.il m] (.b (isPerm m)) := by
  refine conS_of hmix hTab Try.func78 rfl rfl (by kernel_rfl) (by show 1 ≤ Try.f78.ntmps; decide) rfl ?_
  (repeat ((conv => whnf); first | (refine And.intro (by first | omega | (dsimp only; omega) | with_reducible rfl | (simp; done) | (simp; omega) | rfl | exact .inl rfl | exact .inr rfl | (intro hq; simp at hq; done) | (show _ = _; kernel_rfl)) ?_) | (refine brT rfl ?_) | (refine brF rfl ?_) | (refine Exists.intro _ (And.intro rfl ?_)) | (refine Exists.intro _ (Exists.intro _ (And.intro rfl ?_))))); try (conv => whnf)
  refine ⟨Nat × List Bool, fun a => a.1 ≤ m.length ∧ a.2.length = m.length ∧ permF m.length (m.drop a.1) a.2 = isPerm m, fun a => m.length - a.1, fun a => [(0, .il m), (3, .own 0 0 m.length), (4, .i a.1)], fun a => [.arr .bool a.2 true], ⟨(0, List.replicate m.length false), ⟨.frz [], [0], ⟨rfl, rfl, rfl, trivial⟩, ⟨rfl, trivial⟩, by decide, rfl, rfl, rfl⟩, by simp [isPerm]⟩, fun ⟨i, s⟩ ⟨hi, hs, hp⟩ => ?_⟩
  dsimp only at hi hs hp
  (repeat ((conv => whnf); first | (refine And.intro (by first | omega | (dsimp only; omega) | with_reducible rfl | (simp; done) | (simp; omega) | rfl | exact .inl rfl | exact .inr rfl | (intro hq; simp at hq; done) | (show _ = _; kernel_rfl)) ?_) | (refine brT rfl ?_) | (refine brF rfl ?_) | (refine Exists.intro _ (And.intro rfl ?_)) | (refine Exists.intro _ (Exists.intro _ (And.intro rfl ?_))))); try (conv => whnf)
  refine Br.mk (fun h => ?_) (fun h => ?_) <;> simp [-Int.ofNat_toNat] at h
  · (repeat ((conv => whnf); first | (refine And.intro (by first | omega | (dsimp only; omega) | with_reducible rfl | (simp; done) | (simp; omega) | rfl | exact .inl rfl | exact .inr rfl | (intro hq; simp at hq; done) | (show _ = _; kernel_rfl)) ?_) | (refine brT rfl ?_) | (refine brF rfl ?_) | (refine Exists.intro _ (And.intro rfl ?_)) | (refine Exists.intro _ (Exists.intro _ (And.intro rfl ?_))))); try (conv => whnf)
    refine .inl ⟨_, _, _, (l1In _ _ _).toT, ⟨rfl, rfl, rfl, trivial⟩, ?_⟩
    (repeat ((conv => whnf); first | (refine And.intro (by first | omega | (dsimp only; omega) | with_reducible rfl | (simp; done) | (simp; omega) | rfl | exact .inl rfl | exact .inr rfl | (intro hq; simp at hq; done) | (show _ = _; kernel_rfl)) ?_) | (refine brT rfl ?_) | (refine brF rfl ?_) | (refine Exists.intro _ (And.intro rfl ?_)) | (refine Exists.intro _ (Exists.intro _ (And.intro rfl ?_))))); try (conv => whnf)
    rw [drop_cons h, permF] at hp
    refine Br.mk (fun h1 => ?_) (fun h1 => ?_) <;> simp [-Int.ofNat_toNat] at h1
    · (repeat ((conv => whnf); first | (refine And.intro (by first | omega | (dsimp only; omega) | with_reducible rfl | (simp; done) | (simp; omega) | rfl | exact .inl rfl | exact .inr rfl | (intro hq; simp at hq; done) | (show _ = _; kernel_rfl)) ?_) | (refine brT rfl ?_) | (refine brF rfl ?_) | (refine Exists.intro _ (And.intro rfl ?_)) | (refine Exists.intro _ (Exists.intro _ (And.intro rfl ?_))))); try (conv => whnf)
      rw [if_neg (fun c => by omega)] at hp
      simp [← hp]
    · (repeat ((conv => whnf); first | (refine And.intro (by first | omega | (dsimp only; omega) | with_reducible rfl | (simp; done) | (simp; omega) | rfl | exact .inl rfl | exact .inr rfl | (intro hq; simp at hq; done) | (show _ = _; kernel_rfl)) ?_) | (refine brT rfl ?_) | (refine brF rfl ?_) | (refine Exists.intro _ (And.intro rfl ?_)) | (refine Exists.intro _ (Exists.intro _ (And.intro rfl ?_))))); try (conv => whnf)
      rw [if_pos h1] at hp
      refine Br.mk (fun h2 => ?_) (fun h2 => ?_) <;> simp [-Int.ofNat_toNat] at h2
      · (repeat ((conv => whnf); first | (refine And.intro (by first | omega | (dsimp only; omega) | with_reducible rfl | (simp; done) | (simp; omega) | rfl | exact .inl rfl | exact .inr rfl | (intro hq; simp at hq; done) | (show _ = _; kernel_rfl)) ?_) | (refine brT rfl ?_) | (refine brF rfl ?_) | (refine Exists.intro _ (And.intro rfl ?_)) | (refine Exists.intro _ (Exists.intro _ (And.intro rfl ?_))))); try (conv => whnf)
        rw [if_pos (by simpa using h2)] at hp
        simp [← hp]
      · (repeat ((conv => whnf); first | (refine And.intro (by first | omega | (dsimp only; omega) | with_reducible rfl | (simp; done) | (simp; omega) | rfl | exact .inl rfl | exact .inr rfl | (intro hq; simp at hq; done) | (show _ = _; kernel_rfl)) ?_) | (refine brT rfl ?_) | (refine brF rfl ?_) | (refine Exists.intro _ (And.intro rfl ?_)) | (refine Exists.intro _ (Exists.intro _ (And.intro rfl ?_))))); try (conv => whnf)
        rw [if_neg (by simpa using h2)] at hp
        refine ⟨(i + 1, s.set (rd m i).toNat true), ⟨.frz [], [0], ⟨rfl, rfl, rfl, trivial⟩, ⟨by simp [Obj.ren, frzI, -Int.ofNat_toNat], trivial⟩, by decide, rfl, rfl, rfl⟩, ⟨h, by simpa using hs, hp⟩, by dsimp only; omega⟩
  · (repeat ((conv => whnf); first | (refine And.intro (by first | omega | (dsimp only; omega) | with_reducible rfl | (simp; done) | (simp; omega) | rfl | exact .inl rfl | exact .inr rfl | (intro hq; simp at hq; done) | (show _ = _; kernel_rfl)) ?_) | (refine brT rfl ?_) | (refine brF rfl ?_) | (refine Exists.intro _ (And.intro rfl ?_)) | (refine Exists.intro _ (Exists.intro _ (And.intro rfl ?_))))); try (conv => whnf)
    obtain rfl : i = m.length := by omega
    simp [permF] at hp
    simp [← hp]
end Go.Proofs.YtbcdcbamdahnpaaTv
end
section
open Go Go.Proofs.YtbcdcbamdahnpaaVe Go.Proofs.YtbcdcbamdahnpaaTv Go.Proofs
namespace Go.Proofs.YtbcdcbamdahnpaaTv
set_option maxRecDepth 8000
set_option maxHeartbeats 2000000
theorem isPermutation (m : List Int) (hm : (m.length : Int) ≤ 1048576) : ConS Try.prog 81 [.il m] (.b (isPerm m)) := by
  refine conS_of hmix hTab Try.func81 rfl rfl (by kernel_rfl) (by show 1 ≤ Try.f81.ntmps; decide) rfl ?_
  (repeat ((conv => whnf); first | (refine And.intro (by first | omega | (dsimp only; omega) | with_reducible rfl | (simp; done) | (simp; omega) | rfl | exact .inl rfl | exact .inr rfl | (intro hq; simp at hq; done) | (show _ = _; kernel_rfl)) ?_) | (refine brT rfl ?_) | (refine brF rfl ?_) | (refine Exists.intro _ (And.intro rfl ?_)) | (refine Exists.intro _ (Exists.intro _ (And.intro rfl ?_))))); try (conv => whnf)
  refine ⟨Nat × List Bool, fun a => a.1 ≤ m.length ∧ a.2.length = m.length ∧ permF m.length (m.drop a.1) a.2 = isPerm m, fun a => m.length - a.1, fun a => [(0, .il m), (3, .own 0 0 m.length), (9, .il m), (10, .i m.length), (11, .i a.1)], fun a => [.arr .bool a.2 true], ⟨(0, List.replicate m.length false), ⟨.frz [], [0], ⟨rfl, rfl, rfl, rfl, rfl, trivial⟩, ⟨rfl, trivial⟩, by decide, rfl, rfl, rfl⟩, by simp [isPerm]⟩, fun ⟨i, s⟩ ⟨hi, hs, hp⟩ => ?_⟩
  dsimp only at hi hs hp
  (repeat ((conv => whnf); first | (refine And.intro (by first | omega | (dsimp only; omega) | with_reducible rfl | (simp; done) | (simp; omega) | rfl | exact .inl rfl | exact .inr rfl | (intro hq; simp at hq; done) | (show _ = _; kernel_rfl)) ?_) | (refine brT rfl ?_) | (refine brF rfl ?_) | (refine Exists.intro _ (And.intro rfl ?_)) | (refine Exists.intro _ (Exists.intro _ (And.intro rfl ?_))))); try (conv => whnf)
  refine Br.mk (fun h => ?_) (fun h => ?_) <;> simp [-Int.ofNat_toNat] at h
  · (repeat ((conv => whnf); first | (refine And.intro (by first | omega | (dsimp only; omega) | with_reducible rfl | (simp; done) | (simp; omega) | rfl | exact .inl rfl | exact .inr rfl | (intro hq; simp at hq; done) | (show _ = _; kernel_rfl)) ?_) | (refine brT rfl ?_) | (refine brF rfl ?_) | (refine Exists.intro _ (And.intro rfl ?_)) | (refine Exists.intro _ (Exists.intro _ (And.intro rfl ?_))))); try (conv => whnf)
    refine .inl ⟨_, _, _, (within _ _ _).toT, ⟨rfl, rfl, rfl, trivial⟩, ?_⟩
    (repeat ((conv => whnf); first | (refine And.intro (by first | omega | (dsimp only; omega) | with_reducible rfl | (simp; done) | (simp; omega) | rfl | exact .inl rfl | exact .inr rfl | (intro hq; simp at hq; done) | (show _ = _; kernel_rfl)) ?_) | (refine brT rfl ?_) | (refine brF rfl ?_) | (refine Exists.intro _ (And.intro rfl ?_)) | (refine Exists.intro _ (Exists.intro _ (And.intro rfl ?_))))); try (conv => whnf)
    rw [drop_cons h, permF] at hp
    refine Br.mk (fun h1 => ?_) (fun h1 => ?_) <;> simp [-Int.ofNat_toNat] at h1
    · (repeat ((conv => whnf); first | (refine And.intro (by first | omega | (dsimp only; omega) | with_reducible rfl | (simp; done) | (simp; omega) | rfl | exact .inl rfl | exact .inr rfl | (intro hq; simp at hq; done) | (show _ = _; kernel_rfl)) ?_) | (refine brT rfl ?_) | (refine brF rfl ?_) | (refine Exists.intro _ (And.intro rfl ?_)) | (refine Exists.intro _ (Exists.intro _ (And.intro rfl ?_))))); try (conv => whnf)
      rw [if_neg (fun c => by omega)] at hp
      simp [← hp]
    · (repeat ((conv => whnf); first | (refine And.intro (by first | omega | (dsimp only; omega) | with_reducible rfl | (simp; done) | (simp; omega) | rfl | exact .inl rfl | exact .inr rfl | (intro hq; simp at hq; done) | (show _ = _; kernel_rfl)) ?_) | (refine brT rfl ?_) | (refine brF rfl ?_) | (refine Exists.intro _ (And.intro rfl ?_)) | (refine Exists.intro _ (Exists.intro _ (And.intro rfl ?_))))); try (conv => whnf)
      rw [if_pos h1] at hp
      refine Br.mk (fun h2 => ?_) (fun h2 => ?_) <;> simp [-Int.ofNat_toNat] at h2
      · (repeat ((conv => whnf); first | (refine And.intro (by first | omega | (dsimp only; omega) | with_reducible rfl | (simp; done) | (simp; omega) | rfl | exact .inl rfl | exact .inr rfl | (intro hq; simp at hq; done) | (show _ = _; kernel_rfl)) ?_) | (refine brT rfl ?_) | (refine brF rfl ?_) | (refine Exists.intro _ (And.intro rfl ?_)) | (refine Exists.intro _ (Exists.intro _ (And.intro rfl ?_))))); try (conv => whnf)
        rw [if_pos (by simpa using h2)] at hp
        simp [← hp]
      · (repeat ((conv => whnf); first | (refine And.intro (by first | omega | (dsimp only; omega) | with_reducible rfl | (simp; done) | (simp; omega) | rfl | exact .inl rfl | exact .inr rfl | (intro hq; simp at hq; done) | (show _ = _; kernel_rfl)) ?_) | (refine brT rfl ?_) | (refine brF rfl ?_) | (refine Exists.intro _ (And.intro rfl ?_)) | (refine Exists.intro _ (Exists.intro _ (And.intro rfl ?_))))); try (conv => whnf)
        rw [if_neg (by simpa using h2)] at hp
        refine ⟨(i + 1, s.set (rd m i).toNat true), ⟨.frz [], [0], ⟨rfl, rfl, rfl, rfl, rfl, trivial⟩, ⟨by simp [Obj.ren, frzI, -Int.ofNat_toNat], trivial⟩, by decide, rfl, rfl, rfl⟩, ⟨h, by simpa using hs, hp⟩, by dsimp only; omega⟩
  · (repeat ((conv => whnf); first | (refine And.intro (by first | omega | (dsimp only; omega) | with_reducible rfl | (simp; done) | (simp; omega) | rfl | exact .inl rfl | exact .inr rfl | (intro hq; simp at hq; done) | (show _ = _; kernel_rfl)) ?_) | (refine brT rfl ?_) | (refine brF rfl ?_) | (refine Exists.intro _ (And.intro rfl ?_)) | (refine Exists.intro _ (Exists.intro _ (And.intro rfl ?_))))); try (conv => whnf)
    obtain rfl : i = m.length := by omega
    simp [permF] at hp
    simp [← hp]
def isMap (m : List Int) : Bool := decide (2 ≤ (m.length : Int) ∧ (m.length : Int) ≤ 24) && (decide ((m.length : Int).tmod 2 = 0) && isPerm m)
theorem IsMapS (m : List Int) (hm : (m.length : Int) ≤ 1048576) : ConS Try.prog 52 [.il m] (.b (isMap m)) := by
  refine conS_of hmix hTab Try.func52 rfl rfl (by kernel_rfl) (by show 1 ≤ Try.f52.ntmps; decide) rfl ?_
  (repeat ((conv => whnf); first | (refine And.intro (by first | omega | (dsimp only; omega) | with_reducible rfl | (simp; done) | (simp; omega) | rfl | exact .inl rfl | exact .inr rfl | (intro hq; simp at hq; done) | (show _ = _; kernel_rfl)) ?_) | (refine brT rfl ?_) | (refine brF rfl ?_) | (refine Exists.intro _ (And.intro rfl ?_)) | (refine Exists.intro _ (Exists.intro _ (And.intro rfl ?_))))); try (conv => whnf)
  refine .inl ⟨_, _, _, (l1In _ _ _).toT, ⟨rfl, rfl, rfl, trivial⟩, ?_⟩
  (repeat ((conv => whnf); first | (refine And.intro (by first | omega | (dsimp only; omega) | with_reducible rfl | (simp; done) | (simp; omega) | rfl | exact .inl rfl | exact .inr rfl | (intro hq; simp at hq; done) | (show _ = _; kernel_rfl)) ?_) | (refine brT rfl ?_) | (refine brF rfl ?_) | (refine Exists.intro _ (And.intro rfl ?_)) | (refine Exists.intro _ (Exists.intro _ (And.intro rfl ?_))))); try (conv => whnf)
  refine Br.mk (fun h1 => ?_) (fun h1 => ?_) <;> simp [-Int.ofNat_toNat] at h1
  · (repeat ((conv => whnf); first | (refine And.intro (by first | omega | (dsimp only; omega) | with_reducible rfl | (simp; done) | (simp; omega) | rfl | exact .inl rfl | exact .inr rfl | (intro hq; simp at hq; done) | (show _ = _; kernel_rfl)) ?_) | (refine brT rfl ?_) | (refine brF rfl ?_) | (refine Exists.intro _ (And.intro rfl ?_)) | (refine Exists.intro _ (Exists.intro _ (And.intro rfl ?_))))); try (conv => whnf)
    refine Br.mk (fun h2 => ?_) (fun h2 => ?_) <;> simp [-Int.ofNat_toNat] at h2
    · (repeat ((conv => whnf); first | (refine And.intro (by first | omega | (dsimp only; omega) | with_reducible rfl | (simp; done) | (simp; omega) | rfl | exact .inl rfl | exact .inr rfl | (intro hq; simp at hq; done) | (show _ = _; kernel_rfl)) ?_) | (refine brT rfl ?_) | (refine brF rfl ?_) | (refine Exists.intro _ (And.intro rfl ?_)) | (refine Exists.intro _ (Exists.intro _ (And.intro rfl ?_))))); try (conv => whnf)
      refine .inl ⟨_, _, _, (l6Perm m hm).toT, ⟨⟨_, rfl, rfl⟩, trivial⟩, ?_⟩
      (repeat ((conv => whnf); first | (refine And.intro (by first | omega | (dsimp only; omega) | with_reducible rfl | (simp; done) | (simp; omega) | rfl | exact .inl rfl | exact .inr rfl | (intro hq; simp at hq; done) | (show _ = _; kernel_rfl)) ?_) | (refine brT rfl ?_) | (refine brF rfl ?_) | (refine Exists.intro _ (And.intro rfl ?_)) | (refine Exists.intro _ (Exists.intro _ (And.intro rfl ?_))))); try (conv => whnf)
      simp [isMap, h1, h2]
    · (repeat ((conv => whnf); first | (refine And.intro (by first | omega | (dsimp only; omega) | with_reducible rfl | (simp; done) | (simp; omega) | rfl | exact .inl rfl | exact .inr rfl | (intro hq; simp at hq; done) | (show _ = _; kernel_rfl)) ?_) | (refine brT rfl ?_) | (refine brF rfl ?_) | (refine Exists.intro _ (And.intro rfl ?_)) | (refine Exists.intro _ (Exists.intro _ (And.intro rfl ?_))))); try (conv => whnf)
      simp [isMap, h1, h2]
  · (repeat ((conv => whnf); first | (refine And.intro (by first | omega | (dsimp only; omega) | with_reducible rfl | (simp; done) | (simp; omega) | rfl | exact .inl rfl | exact .inr rfl | (intro hq; simp at hq; done) | (show _ = _; kernel_rfl)) ?_) | (refine brT rfl ?_) | (refine brF rfl ?_) | (refine Exists.intro _ (And.intro rfl ?_)) | (refine Exists.intro _ (Exists.intro _ (And.intro rfl ?_))))); try (conv => whnf)
    have : ¬ (2 ≤ (m.length : Int) ∧ (m.length : Int) ≤ 24) := by omega
    simp only [isMap, this, decide_false, Bool.false_and]
theorem IsMapI (m : List Int) (hm : (m.length : Int) ≤ 1048576) : ConS Try.prog 56 [.il m] (.b (isMap m)) := by
  refine conS_of hmix hTab Try.func56 rfl rfl (by kernel_rfl) (by show 1 ≤ Try.f56.ntmps; decide) rfl ?_
  (repeat ((conv => whnf); first | (refine And.intro (by first | omega | (dsimp only; omega) | with_reducible rfl | (simp; done) | (simp; omega) | rfl | exact .inl rfl | exact .inr rfl | (intro hq; simp at hq; done) | (show _ = _; kernel_rfl)) ?_) | (refine brT rfl ?_) | (refine brF rfl ?_) | (refine Exists.intro _ (And.intro rfl ?_)) | (refine Exists.intro _ (Exists.intro _ (And.intro rfl ?_))))); try (conv => whnf)
  refine .inl ⟨_, _, _, (within _ _ _).toT, ⟨rfl, rfl, rfl, trivial⟩, ?_⟩
  (repeat ((conv => whnf); first | (refine And.intro (by first | omega | (dsimp only; omega) | with_reducible rfl | (simp; done) | (simp; omega) | rfl | exact .inl rfl | exact .inr rfl | (intro hq; simp at hq; done) | (show _ = _; kernel_rfl)) ?_) | (refine brT rfl ?_) | (refine brF rfl ?_) | (refine Exists.intro _ (And.intro rfl ?_)) | (refine Exists.intro _ (Exists.intro _ (And.intro rfl ?_))))); try (conv => whnf)
  refine Br.mk (fun h1 => ?_) (fun h1 => ?_) <;> simp [-Int.ofNat_toNat] at h1
  · (repeat ((conv => whnf); first | (refine And.intro (by first | omega | (dsimp only; omega) | with_reducible rfl | (simp; done) | (simp; omega) | rfl | exact .inl rfl | exact .inr rfl | (intro hq; simp at hq; done) | (show _ = _; kernel_rfl)) ?_) | (refine brT rfl ?_) | (refine brF rfl ?_) | (refine Exists.intro _ (And.intro rfl ?_)) | (refine Exists.intro _ (Exists.intro _ (And.intro rfl ?_))))); try (conv => whnf)
    refine Br.mk (fun h2 => ?_) (fun h2 => ?_) <;> simp [-Int.ofNat_toNat] at h2
    · (repeat ((conv => whnf); first | (refine And.intro (by first | omega | (dsimp only; omega) | with_reducible rfl | (simp; done) | (simp; omega) | rfl | exact .inl rfl | exact .inr rfl | (intro hq; simp at hq; done) | (show _ = _; kernel_rfl)) ?_) | (refine brT rfl ?_) | (refine brF rfl ?_) | (refine Exists.intro _ (And.intro rfl ?_)) | (refine Exists.intro _ (Exists.intro _ (And.intro rfl ?_))))); try (conv => whnf)
      refine .inl ⟨_, _, _, (isPermutation m hm).toT, ⟨⟨_, rfl, rfl⟩, trivial⟩, ?_⟩
      (repeat ((conv => whnf); first | (refine And.intro (by first | omega | (dsimp only; omega) | with_reducible rfl | (simp; done) | (simp; omega) | rfl | exact .inl rfl | exact .inr rfl | (intro hq; simp at hq; done) | (show _ = _; kernel_rfl)) ?_) | (refine brT rfl ?_) | (refine brF rfl ?_) | (refine Exists.intro _ (And.intro rfl ?_)) | (refine Exists.intro _ (Exists.intro _ (And.intro rfl ?_))))); try (conv => whnf)
      simp [isMap, h1, h2]
    · (repeat ((conv => whnf); first | (refine And.intro (by first | omega | (dsimp only; omega) | with_reducible rfl | (simp; done) | (simp; omega) | rfl | exact .inl rfl | exact .inr rfl | (intro hq; simp at hq; done) | (show _ = _; kernel_rfl)) ?_) | (refine brT rfl ?_) | (refine brF rfl ?_) | (refine Exists.intro _ (And.intro rfl ?_)) | (refine Exists.intro _ (Exists.intro _ (And.intro rfl ?_))))); try (conv => whnf)
      simp [isMap, h1, h2]
  · (repeat ((conv => whnf); first | (refine And.intro (by first | omega | (dsimp only; omega) | with_reducible rfl | (simp; done) | (simp; omega) | rfl | exact .inl rfl | exact .inr rfl | (intro hq; simp at hq; done) | (show _ = _; kernel_rfl)) ?_) | (refine brT rfl ?_) | (refine brF rfl ?_) | (refine Exists.intro _ (And.intro rfl ?_)) | (refine Exists.intro _ (Exists.intro _ (And.intro rfl ?_))))); try (conv => whnf)
    have : ¬ (2 ≤ (m.length : Int) ∧ (m.length : Int) ≤ 24) := by omega
    simp only [isMap, this, decide_false, Bool.false_and]
/-- The other dart of an edge. -/
def mate (d : Nat) : Int := if d % 2 = 0 then d + 1 else d - 1
theorem xor1 : ∀ i : Nat, i < 24 → IntKind.wrap .i64 (BitVec.ofInt 64 (i : Int) ^^^ BitVec.ofInt 64 1).toNat = mate i := by decide +kernel
theorem mate_eq : ∀ i : Nat, i < 24 → (i : Int) + 1 - 2 * ((i : Int).tmod 2) = mate i := by decide +kernel
theorem mate_in {n i : Nat} (h : n % 2 = 0) (hi : i < n) : 0 ≤ mate i ∧ mate i < n := by unfold mate; split <;> omega
def dualF (m : List Int) : List Int := (List.range m.length).map fun d => rd m (mate d)
theorem dualF_length (m : List Int) : (dualF m).length = m.length := by simp [dualF]
theorem dualF_get (m : List Int) {i : Nat} (h : i < m.length) : (dualF m)[i]? = some (rd m (mate i)) := by simp [dualF, h]
theorem dual (m : List Int) (h24 : m.length ≤ 24) (he : m.length % 2 = 0) : ConT Try.prog 83 [.il m] (.own 0 0 m.length) [.arr (.int .i64) (dualF m) true] := by
  refine conT_of hmix hTab Try.func83 rfl rfl (by kernel_rfl) (by show 1 ≤ Try.f83.ntmps; decide) ?_
  (repeat ((conv => whnf); first | (refine And.intro (by first | omega | (dsimp only; omega) | with_reducible rfl | (simp; done) | (simp; omega) | rfl | exact .inl rfl | exact .inr rfl | (intro hq; simp at hq; done) | (show _ = _; kernel_rfl)) ?_) | (refine brT rfl ?_) | (refine brF rfl ?_) | (refine Exists.intro _ (And.intro rfl ?_)) | (refine Exists.intro _ (Exists.intro _ (And.intro rfl ?_))))); try (conv => whnf)
  refine ⟨Nat, fun i => i ≤ m.length, fun i => m.length - i, fun i => [(0, .il m), (3, .own 0 0 m.length), (9, .i m.length), (10, .i i)], fun i => [.arr (.int .i64) ((dualF m).take i ++ List.replicate (m.length - i) 0) true], ⟨0, ⟨.frz [], [0], ⟨rfl, rfl, rfl, rfl, trivial⟩, ⟨rfl, trivial⟩, by decide, rfl, rfl, rfl⟩, Nat.zero_le _⟩, fun i hi => ?_⟩
  dsimp only at hi
  have hdl := dualF_length m
  (repeat ((conv => whnf); first | (refine And.intro (by first | omega | (dsimp only; omega) | with_reducible rfl | (simp; done) | (simp; omega) | rfl | exact .inl rfl | exact .inr rfl | (intro hq; simp at hq; done) | (show _ = _; kernel_rfl)) ?_) | (refine brT rfl ?_) | (refine brF rfl ?_) | (refine Exists.intro _ (And.intro rfl ?_)) | (refine Exists.intro _ (Exists.intro _ (And.intro rfl ?_))))); try (conv => whnf)
  refine Br.mk (fun h => ?_) (fun h => ?_) <;> simp [-Int.ofNat_toNat] at h
  · (repeat ((conv => whnf); first | (refine And.intro (by first | omega | (dsimp only; omega) | with_reducible rfl | (simp; done) | (simp; omega) | rfl | exact .inl rfl | exact .inr rfl | (intro hq; simp at hq; done) | (show _ = _; kernel_rfl)) ?_) | (refine brT rfl ?_) | (refine brF rfl ?_) | (refine Exists.intro _ (And.intro rfl ?_)) | (refine Exists.intro _ (Exists.intro _ (And.intro rfl ?_))))); try (conv => whnf)
    have hx := xor1 i (by omega)
    have hmt := mate_in he h
    refine And.intro (by rw [← hx] at hmt; exact hmt) ?_
    (repeat ((conv => whnf); first | (refine And.intro (by first | omega | (dsimp only; omega) | with_reducible rfl | (simp; done) | (simp; omega) | rfl | exact .inl rfl | exact .inr rfl | (intro hq; simp at hq; done) | (show _ = _; kernel_rfl)) ?_) | (refine brT rfl ?_) | (refine brF rfl ?_) | (refine Exists.intro _ (And.intro rfl ?_)) | (refine Exists.intro _ (Exists.intro _ (And.intro rfl ?_))))); try (conv => whnf)
    refine ⟨i + 1, ⟨.frz [], [0], ⟨rfl, rfl, rfl, rfl, trivial⟩, ⟨?_, trivial⟩, by decide, rfl, rfl, rfl⟩, h, by dsimp only; omega⟩
    refine congrArg (fun x => some (Obj.arr (.int .i64) x true)) ?_
    have h1 := fill_step id (dualF m) (0 : Int) (dualF_length m).symm (dualF_get m h)
    rw [← hx] at h1
    simp at h1 ⊢
    exact h1
  · (repeat ((conv => whnf); first | (refine And.intro (by first | omega | (dsimp only; omega) | with_reducible rfl | (simp; done) | (simp; omega) | rfl | exact .inl rfl | exact .inr rfl | (intro hq; simp at hq; done) | (show _ = _; kernel_rfl)) ?_) | (refine brT rfl ?_) | (refine brF rfl ?_) | (refine Exists.intro _ (And.intro rfl ?_)) | (refine Exists.intro _ (Exists.intro _ (And.intro rfl ?_))))); try (conv => whnf)
    obtain rfl : i = m.length := Nat.le_antisymm hi h
    exact ⟨.frz [], [0], ⟨rfl, trivial⟩, ⟨by simp [Obj.ren, frzI, ← dualF_length m], trivial⟩, by decide, rfl, rfl, rfl⟩
theorem l6Mate (a : Int) (ha : 0 ≤ a ∧ a ≤ 100) : ConS Try.prog 89 [.i a] (.i (a + 1 - 2 * (a.tmod 2))) := by
  refine conS_of hmix hTab Try.func89 rfl rfl (by kernel_rfl) (by show 1 ≤ Try.f89.ntmps; decide) rfl ?_
  have := Int.tmod_nonneg 2 ha.1
  have := Int.tmod_lt_of_pos a (show (0 : Int) < 2 by omega)
  (repeat ((conv => whnf); first | (refine And.intro (by first | omega | (dsimp only; omega) | with_reducible rfl | (simp; done) | (simp; omega) | rfl | exact .inl rfl | exact .inr rfl | (intro hq; simp at hq; done) | (show _ = _; kernel_rfl)) ?_) | (refine brT rfl ?_) | (refine brF rfl ?_) | (refine Exists.intro _ (And.intro rfl ?_)) | (refine Exists.intro _ (Exists.intro _ (And.intro rfl ?_))))); try (conv => whnf)
theorem l6Dual (m : List Int) (h24 : m.length ≤ 24) (he : m.length % 2 = 0) : ConT Try.prog 80 [.il m] (.own 0 0 m.length) [.arr (.int .i64) (dualF m) true] := by
  refine conT_of hmix hTab Try.func80 rfl rfl (by kernel_rfl) (by show 1 ≤ Try.f80.ntmps; decide) ?_
  (repeat ((conv => whnf); first | (refine And.intro (by first | omega | (dsimp only; omega) | with_reducible rfl | (simp; done) | (simp; omega) | rfl | exact .inl rfl | exact .inr rfl | (intro hq; simp at hq; done) | (show _ = _; kernel_rfl)) ?_) | (refine brT rfl ?_) | (refine brF rfl ?_) | (refine Exists.intro _ (And.intro rfl ?_)) | (refine Exists.intro _ (Exists.intro _ (And.intro rfl ?_))))); try (conv => whnf)
  refine ⟨Nat, fun i => i ≤ m.length, fun i => m.length - i, fun i => [(0, .il m), (3, .own 0 0 i), (4, .i i)], fun i => [.arr (.int .i64) ((dualF m).take i) true], ⟨0, ⟨.frz [], [0], ⟨rfl, rfl, rfl, trivial⟩, ⟨rfl, trivial⟩, by decide, rfl, rfl, rfl⟩, Nat.zero_le _⟩, fun i hi => ?_⟩
  dsimp only at hi
  have hdl := dualF_length m
  (repeat ((conv => whnf); first | (refine And.intro (by first | omega | (dsimp only; omega) | with_reducible rfl | (simp; done) | (simp; omega) | rfl | exact .inl rfl | exact .inr rfl | (intro hq; simp at hq; done) | (show _ = _; kernel_rfl)) ?_) | (refine brT rfl ?_) | (refine brF rfl ?_) | (refine Exists.intro _ (And.intro rfl ?_)) | (refine Exists.intro _ (Exists.intro _ (And.intro rfl ?_))))); try (conv => whnf)
  refine Br.mk (fun h => ?_) (fun h => ?_) <;> simp [-Int.ofNat_toNat] at h
  · (repeat ((conv => whnf); first | (refine And.intro (by first | omega | (dsimp only; omega) | with_reducible rfl | (simp; done) | (simp; omega) | rfl | exact .inl rfl | exact .inr rfl | (intro hq; simp at hq; done) | (show _ = _; kernel_rfl)) ?_) | (refine brT rfl ?_) | (refine brF rfl ?_) | (refine Exists.intro _ (And.intro rfl ?_)) | (refine Exists.intro _ (Exists.intro _ (And.intro rfl ?_))))); try (conv => whnf)
    refine .inl ⟨_, _, _, (l6Mate _ (by omega)).toT, ⟨rfl, trivial⟩, ?_⟩
    have hx := mate_eq i (by omega)
    have hmt := mate_in he h
    (repeat ((conv => whnf); first | (refine And.intro (by first | omega | (dsimp only; omega) | with_reducible rfl | (simp; done) | (simp; omega) | rfl | exact .inl rfl | exact .inr rfl | (intro hq; simp at hq; done) | (show _ = _; kernel_rfl)) ?_) | (refine brT rfl ?_) | (refine brF rfl ?_) | (refine Exists.intro _ (And.intro rfl ?_)) | (refine Exists.intro _ (Exists.intro _ (And.intro rfl ?_))))); try (conv => whnf)
    refine ⟨i + 1, ⟨.frz [], [2], ⟨rfl, rfl, rfl, trivial⟩, ⟨?_, trivial⟩, by decide, rfl, rfl, rfl⟩, h, by dsimp only; omega⟩
    refine congrArg (fun x => some (Obj.arr (.int .i64) x true)) ?_
    have h1 : (dualF m).take (i + 1) = (dualF m).take i ++ [rd m (mate i)] := by rw [List.take_add_one, dualF_get m h]; rfl
    rw [h1, ← hx]
    simp [hdl, hi, List.take_take]
  · (repeat ((conv => whnf); first | (refine And.intro (by first | omega | (dsimp only; omega) | with_reducible rfl | (simp; done) | (simp; omega) | rfl | exact .inl rfl | exact .inr rfl | (intro hq; simp at hq; done) | (show _ = _; kernel_rfl)) ?_) | (refine brT rfl ?_) | (refine brF rfl ?_) | (refine Exists.intro _ (And.intro rfl ?_)) | (refine Exists.intro _ (Exists.intro _ (And.intro rfl ?_))))); try (conv => whnf)
    obtain rfl : i = m.length := Nat.le_antisymm hi h
    exact ⟨.frz [], [0], ⟨rfl, trivial⟩, ⟨by simp [Obj.ren, frzI, ← dualF_length m], trivial⟩, by decide, rfl, rfl, rfl⟩
/-- A walk along a permutation over numbers that were not seen. -/
def innF (m : List Int) : Nat → List Bool → Int → List Int → List Bool × List Int
  | 0, s, _, own => (s, own)
  | k + 1, s, e, own => if s.getD e.toNat false = true then (s, own) else innF m k (s.set e.toNat true) (rd m e) (own ++ [e])
def cycF (m : List Int) : Nat → Nat → List Bool → List (List Int) → List (List Int)
  | 0, _, _, out => out
  | k + 1, d, s, out => if s.getD d false = true then cycF m k (d + 1) s out else cycF m k (d + 1) (innF m m.length s d []).1 (out ++ [(innF m m.length s d []).2])
def cyc (m : List Int) : List (List Int) := cycF m m.length 0 (List.replicate m.length false) []
def unseen (s : List Bool) : Nat := s.countP (!·)
theorem unseen_set : ∀ (s : List Bool) (i : Nat), i < s.length → s.getD i false = false → unseen (s.set i true) + 1 = unseen s
  | [], i, h, _ => by simp at h
  | b :: s, 0, _, h => by
    simp at h
    subst h
    simp [unseen]
  | b :: s, i + 1, h, h1 => by
    have := unseen_set s i (by simpa using h) (by simpa using h1)
    simp only [unseen, List.set_cons_succ, List.countP_cons] at this ⊢
    omega
theorem innF_out {m : List Int} : ∀ (k : Nat) (s : List Bool) (e : Int) (own : List Int), s.getD e.toNat false = true → innF m k s e own = (s, own)
  | 0, s, e, own, _ => rfl
  | k + 1, s, e, own, h => by unfold innF; rw [if_pos h]
theorem innF_length {m : List Int} : ∀ (k : Nat) (s : List Bool) (e : Int) (own : List Int), (innF m k s e own).1.length = s.length
  | 0, s, e, own => rfl
  | k + 1, s, e, own => by
    unfold innF
    split
    · rfl
    · rw [innF_length k]; simp
theorem unseen_le (s : List Bool) : unseen s ≤ s.length := List.countP_le_length
/-- Each entry is a place of the list. -/
def InR' (m : List Int) : Prop := ∀ i : Nat, i < m.length → 0 ≤ rd m i ∧ rd m i < m.length
theorem l6Cycles (m : List Int) (h24 : m.length ≤ 24) (hin : InR' m) : ConT Try.prog 79 [.il m] (.own 0 0 (cyc m).length) [.arr (.list (.int .i64)) (cyc m) true] := by
  refine conT_of hmix hTab Try.func79 rfl rfl (by kernel_rfl) (by show 1 ≤ Try.f79.ntmps; decide) ?_
  (repeat ((conv => whnf); first | (refine And.intro (by first | omega | (dsimp only; omega) | with_reducible rfl | (simp; done) | (simp; omega) | rfl | exact .inl rfl | exact .inr rfl | (intro hq; simp at hq; done) | (show _ = _; kernel_rfl)) ?_) | (refine brT rfl ?_) | (refine brF rfl ?_) | (refine Exists.intro _ (And.intro rfl ?_)) | (refine Exists.intro _ (Exists.intro _ (And.intro rfl ?_))))); try (conv => whnf)
  refine Or.inl ?_
  (repeat ((conv => whnf); first | (refine And.intro (by first | omega | (dsimp only; omega) | with_reducible rfl | (simp; done) | (simp; omega) | rfl | exact .inl rfl | exact .inr rfl | (intro hq; simp at hq; done) | (show _ = _; kernel_rfl)) ?_) | (refine brT rfl ?_) | (refine brF rfl ?_) | (refine Exists.intro _ (And.intro rfl ?_)) | (refine Exists.intro _ (Exists.intro _ (And.intro rfl ?_))))); try (conv => whnf)
  refine ⟨Nat × List Bool × List (List Int), fun a => a.1 ≤ m.length ∧ a.2.1.length = m.length ∧ a.2.2.length ≤ a.1 ∧ cycF m (m.length - a.1) a.1 a.2.1 a.2.2 = cyc m, fun a => m.length - a.1, fun a => [(0, .il m), (3, .own 0 0 a.2.2.length), (4, .own 1 0 m.length), (5, .i a.1)], fun a => [.arr (.list (.int .i64)) a.2.2 true, .arr .bool a.2.1 true], ⟨(0, List.replicate m.length false, []), ⟨.frz [], [0, 1], ⟨rfl, rfl, rfl, rfl, trivial⟩, ⟨rfl, rfl, trivial⟩, by decide, rfl, rfl, rfl⟩, by simp [cyc]⟩, fun ⟨i, s, out⟩ ⟨hi, hs, hout, hc⟩ => ?_⟩
  dsimp only at hi hs hout hc
  (repeat ((conv => whnf); first | (refine And.intro (by first | omega | (dsimp only; omega) | with_reducible rfl | (simp; done) | (simp; omega) | rfl | exact .inl rfl | exact .inr rfl | (intro hq; simp at hq; done) | (show _ = _; kernel_rfl)) ?_) | (refine brT rfl ?_) | (refine brF rfl ?_) | (refine Exists.intro _ (And.intro rfl ?_)) | (refine Exists.intro _ (Exists.intro _ (And.intro rfl ?_))))); try (conv => whnf)
  refine Br.mk (fun h => ?_) (fun h => ?_) <;> simp [-Int.ofNat_toNat] at h
  · (repeat ((conv => whnf); first | (refine And.intro (by first | omega | (dsimp only; omega) | with_reducible rfl | (simp; done) | (simp; omega) | rfl | exact .inl rfl | exact .inr rfl | (intro hq; simp at hq; done) | (show _ = _; kernel_rfl)) ?_) | (refine brT rfl ?_) | (refine brF rfl ?_) | (refine Exists.intro _ (And.intro rfl ?_)) | (refine Exists.intro _ (Exists.intro _ (And.intro rfl ?_))))); try (conv => whnf)
    have e1 : m.length - i = (m.length - (i + 1)) + 1 := by omega
    rw [e1, cycF] at hc
    refine Br.mk (fun h1 => ?_) (fun h1 => ?_) <;> simp [-Int.ofNat_toNat] at h1
    · rw [if_pos (by simpa using h1)] at hc
      (repeat ((conv => whnf); first | (refine And.intro (by first | omega | (dsimp only; omega) | with_reducible rfl | (simp; done) | (simp; omega) | rfl | exact .inl rfl | exact .inr rfl | (intro hq; simp at hq; done) | (show _ = _; kernel_rfl)) ?_) | (refine brT rfl ?_) | (refine brF rfl ?_) | (refine Exists.intro _ (And.intro rfl ?_)) | (refine Exists.intro _ (Exists.intro _ (And.intro rfl ?_))))); try (conv => whnf)
      exact ⟨(i + 1, s, out), ⟨.frz [], [0, 1], ⟨rfl, rfl, rfl, rfl, trivial⟩, ⟨rfl, rfl, trivial⟩, by decide, rfl, rfl, rfl⟩, ⟨h, hs, Nat.le_succ_of_le hout, hc⟩, by dsimp only; omega⟩
    · rw [if_neg (by simpa using h1)] at hc
      (repeat ((conv => whnf); first | (refine And.intro (by first | omega | (dsimp only; omega) | with_reducible rfl | (simp; done) | (simp; omega) | rfl | exact .inl rfl | exact .inr rfl | (intro hq; simp at hq; done) | (show _ = _; kernel_rfl)) ?_) | (refine brT rfl ?_) | (refine brF rfl ?_) | (refine Exists.intro _ (And.intro rfl ?_)) | (refine Exists.intro _ (Exists.intro _ (And.intro rfl ?_))))); try (conv => whnf)
      have hi0 : unseen s ≤ m.length := by have := unseen_le s; omega
      refine ⟨Nat × List Bool × Int × List Int, fun a => unseen a.2.1 ≤ a.1 ∧ a.2.1.length = m.length ∧ (0 ≤ a.2.2.1 ∧ a.2.2.1 < m.length) ∧ a.2.2.2.length + a.1 ≤ m.length ∧ innF m a.1 a.2.1 a.2.2.1 a.2.2.2 = innF m m.length s i [], fun a => a.1, fun a => [(0, .il m), (3, .own 0 0 out.length), (4, .own 1 0 m.length), (5, .i i), (6, .own 2 0 a.2.2.2.length), (7, .i a.2.2.1)], fun a => [.arr (.list (.int .i64)) out true, .arr .bool a.2.1 true, .arr (.int .i64) a.2.2.2 true], ⟨(m.length, s, i, []), ⟨.frz [], [0, 1, 2], ⟨rfl, rfl, rfl, rfl, rfl, rfl, trivial⟩, ⟨rfl, rfl, rfl, trivial⟩, by decide, rfl, rfl, rfl⟩, hi0, hs, by simpa using h, by simp, rfl⟩, fun ⟨k, s2, e, own⟩ ⟨g1, g2, g3, g4, g5⟩ => ?_⟩
      dsimp only at g1 g2 g3 g4 g5
      (repeat ((conv => whnf); first | (refine And.intro (by first | omega | (dsimp only; omega) | with_reducible rfl | (simp; done) | (simp; omega) | rfl | exact .inl rfl | exact .inr rfl | (intro hq; simp at hq; done) | (show _ = _; kernel_rfl)) ?_) | (refine brT rfl ?_) | (refine brF rfl ?_) | (refine Exists.intro _ (And.intro rfl ?_)) | (refine Exists.intro _ (Exists.intro _ (And.intro rfl ?_))))); try (conv => whnf)
      refine Br.mk (fun h2 => ?_) (fun h2 => ?_) <;> simp [-Int.ofNat_toNat] at h2
      · have hu := unseen_set s2 e.toNat (by omega) (by simpa using h2)
        have hk : k = (k - 1) + 1 := by omega
        have hr := hin e.toNat (by omega)
        have he : ((e.toNat : Nat) : Int) = e := by omega
        rw [he] at hr
        rw [hk, innF, if_neg (by simpa using h2)] at g5
        (repeat ((conv => whnf); first | (refine And.intro (by first | omega | (dsimp only; omega) | with_reducible rfl | (simp; done) | (simp; omega) | rfl | exact .inl rfl | exact .inr rfl | (intro hq; simp at hq; done) | (show _ = _; kernel_rfl)) ?_) | (refine brT rfl ?_) | (refine brF rfl ?_) | (refine Exists.intro _ (And.intro rfl ?_)) | (refine Exists.intro _ (Exists.intro _ (And.intro rfl ?_))))); try (conv => whnf)
        refine ⟨(k - 1, s2.set e.toNat true, rd m e, own ++ [e]), ⟨.frz [], [0, 1, 4], ⟨rfl, rfl, rfl, rfl, ?_, rfl, trivial⟩, ⟨rfl, by simp [Obj.ren, frzI, -Int.ofNat_toNat], by simp [Obj.ren, frzI, -Int.ofNat_toNat], trivial⟩, by decide, rfl, rfl, rfl⟩, ⟨?_, by simpa using g2, hr, ?_, g5⟩, ?_⟩
        · show V.own 4 0 _ = V.own 4 0 _
          simp
        · dsimp only; omega
        · simp; omega
        · dsimp only; omega
      · have g6 := innF_out (m := m) k s2 e own (by simpa using h2)
        rw [g6] at g5
        rw [← g5] at hc
        (repeat ((conv => whnf); first | (refine And.intro (by first | omega | (dsimp only; omega) | with_reducible rfl | (simp; done) | (simp; omega) | rfl | exact .inl rfl | exact .inr rfl | (intro hq; simp at hq; done) | (show _ = _; kernel_rfl)) ?_) | (refine brT rfl ?_) | (refine brF rfl ?_) | (refine Exists.intro _ (And.intro rfl ?_)) | (refine Exists.intro _ (Exists.intro _ (And.intro rfl ?_))))); try (conv => whnf)
        refine Or.inl ⟨_, rfl, rfl, rfl, ?_⟩
        (repeat ((conv => whnf); first | (refine And.intro (by first | omega | (dsimp only; omega) | with_reducible rfl | (simp; done) | (simp; omega) | rfl | exact .inl rfl | exact .inr rfl | (intro hq; simp at hq; done) | (show _ = _; kernel_rfl)) ?_) | (refine brT rfl ?_) | (refine brF rfl ?_) | (refine Exists.intro _ (And.intro rfl ?_)) | (refine Exists.intro _ (Exists.intro _ (And.intro rfl ?_))))); try (conv => whnf)
        refine Or.inl ⟨_, _, rfl, rfl, by decide, rfl, rfl, rfl, rfl, by simp; omega, ?_⟩
        (repeat ((conv => whnf); first | (refine And.intro (by first | omega | (dsimp only; omega) | with_reducible rfl | (simp; done) | (simp; omega) | rfl | exact .inl rfl | exact .inr rfl | (intro hq; simp at hq; done) | (show _ = _; kernel_rfl)) ?_) | (refine brT rfl ?_) | (refine brF rfl ?_) | (refine Exists.intro _ (And.intro rfl ?_)) | (refine Exists.intro _ (Exists.intro _ (And.intro rfl ?_))))); try (conv => whnf)
        refine ⟨(i + 1, s2, out ++ [own]), ⟨.frz [], [4, 1], ⟨rfl, ?_, rfl, rfl, trivial⟩, ⟨by simp [Obj.ren, frzI, -Int.ofNat_toNat], by simp [Obj.ren, frzI, -Int.ofNat_toNat], trivial⟩, by decide, rfl, rfl, rfl⟩, ⟨h, g2, by simp; omega, hc⟩, by dsimp only; omega⟩
        show V.own 4 0 _ = V.own 4 0 _
        simp
  · (repeat ((conv => whnf); first | (refine And.intro (by first | omega | (dsimp only; omega) | with_reducible rfl | (simp; done) | (simp; omega) | rfl | exact .inl rfl | exact .inr rfl | (intro hq; simp at hq; done) | (show _ = _; kernel_rfl)) ?_) | (refine brT rfl ?_) | (refine brF rfl ?_) | (refine Exists.intro _ (And.intro rfl ?_)) | (refine Exists.intro _ (Exists.intro _ (And.intro rfl ?_))))); try (conv => whnf)
    obtain rfl : i = m.length := Nat.le_antisymm hi h
    simp [cycF] at hc
    subst hc
    exact ⟨.frz [], [0], ⟨rfl, trivial⟩, ⟨rfl, trivial⟩, by decide, rfl, rfl, rfl⟩
end Go.Proofs.YtbcdcbamdahnpaaTv
end
section
open Go Go.Proofs.YtbcdcbamdahnpaaVe Go.Proofs.YtbcdcbamdahnpaaTv Go.Proofs
namespace Go.Proofs.YtbcdcbamdahnpaaTv
set_option maxRecDepth 8000
set_option maxHeartbeats 2000000
theorem cycles (m : List Int) (h24 : m.length ≤ 24) (hin : InR' m) : ConT Try.prog 82 [.il m] (.own 0 0 (cyc m).length) [.arr (.list (.int .i64)) (cyc m) true] := by
  refine conT_of hmix hTab Try.func82 rfl rfl (by kernel_rfl) (by show 1 ≤ Try.f82.ntmps; decide) ?_
  (repeat ((conv => whnf); first | (refine And.intro (by first | omega | (dsimp only; omega) | with_reducible rfl | (simp; done) | (simp; omega) | rfl | exact .inl rfl | exact .inr rfl | (intro hq; simp at hq; done) | (show _ = _; kernel_rfl)) ?_) | (refine brT rfl ?_) | (refine brF rfl ?_) | (refine Exists.intro _ (And.intro rfl ?_)) | (refine Exists.intro _ (Exists.intro _ (And.intro rfl ?_))))); try (conv => whnf)
  refine Or.inl ?_
  (repeat ((conv => whnf); first | (refine And.intro (by first | omega | (dsimp only; omega) | with_reducible rfl | (simp; done) | (simp; omega) | rfl | exact .inl rfl | exact .inr rfl | (intro hq; simp at hq; done) | (show _ = _; kernel_rfl)) ?_) | (refine brT rfl ?_) | (refine brF rfl ?_) | (refine Exists.intro _ (And.intro rfl ?_)) | (refine Exists.intro _ (Exists.intro _ (And.intro rfl ?_))))); try (conv => whnf)
  refine ⟨Nat × List Bool × List (List Int), fun a => a.1 ≤ m.length ∧ a.2.1.length = m.length ∧ a.2.2.length ≤ a.1 ∧ cycF m (m.length - a.1) a.1 a.2.1 a.2.2 = cyc m, fun a => m.length - a.1, fun a => [(0, .il m), (3, .own 0 0 a.2.2.length), (4, .own 1 0 m.length), (13, .i m.length), (14, .i a.1)], fun a => [.arr (.list (.int .i64)) a.2.2 true, .arr .bool a.2.1 true], ⟨(0, List.replicate m.length false, []), ⟨.frz [], [0, 1], ⟨rfl, rfl, rfl, rfl, rfl, trivial⟩, ⟨rfl, rfl, trivial⟩, by decide, rfl, rfl, rfl⟩, by simp [cyc]⟩, fun ⟨i, s, out⟩ ⟨hi, hs, hout, hc⟩ => ?_⟩
  dsimp only at hi hs hout hc
  (repeat ((conv => whnf); first | (refine And.intro (by first | omega | (dsimp only; omega) | with_reducible rfl | (simp; done) | (simp; omega) | rfl | exact .inl rfl | exact .inr rfl | (intro hq; simp at hq; done) | (show _ = _; kernel_rfl)) ?_) | (refine brT rfl ?_) | (refine brF rfl ?_) | (refine Exists.intro _ (And.intro rfl ?_)) | (refine Exists.intro _ (Exists.intro _ (And.intro rfl ?_))))); try (conv => whnf)
  refine Br.mk (fun h => ?_) (fun h => ?_) <;> simp [-Int.ofNat_toNat] at h
  · (repeat ((conv => whnf); first | (refine And.intro (by first | omega | (dsimp only; omega) | with_reducible rfl | (simp; done) | (simp; omega) | rfl | exact .inl rfl | exact .inr rfl | (intro hq; simp at hq; done) | (show _ = _; kernel_rfl)) ?_) | (refine brT rfl ?_) | (refine brF rfl ?_) | (refine Exists.intro _ (And.intro rfl ?_)) | (refine Exists.intro _ (Exists.intro _ (And.intro rfl ?_))))); try (conv => whnf)
    have e1 : m.length - i = (m.length - (i + 1)) + 1 := by omega
    rw [e1, cycF] at hc
    refine Br.mk (fun h1 => ?_) (fun h1 => ?_) <;> simp [-Int.ofNat_toNat] at h1
    · rw [if_pos (by simpa using h1)] at hc
      (repeat ((conv => whnf); first | (refine And.intro (by first | omega | (dsimp only; omega) | with_reducible rfl | (simp; done) | (simp; omega) | rfl | exact .inl rfl | exact .inr rfl | (intro hq; simp at hq; done) | (show _ = _; kernel_rfl)) ?_) | (refine brT rfl ?_) | (refine brF rfl ?_) | (refine Exists.intro _ (And.intro rfl ?_)) | (refine Exists.intro _ (Exists.intro _ (And.intro rfl ?_))))); try (conv => whnf)
      exact ⟨(i + 1, s, out), ⟨.frz [], [0, 1], ⟨rfl, rfl, rfl, rfl, rfl, trivial⟩, ⟨rfl, rfl, trivial⟩, by decide, rfl, rfl, rfl⟩, ⟨h, hs, Nat.le_succ_of_le hout, hc⟩, by dsimp only; omega⟩
    · rw [if_neg (by simpa using h1)] at hc
      (repeat ((conv => whnf); first | (refine And.intro (by first | omega | (dsimp only; omega) | with_reducible rfl | (simp; done) | (simp; omega) | rfl | exact .inl rfl | exact .inr rfl | (intro hq; simp at hq; done) | (show _ = _; kernel_rfl)) ?_) | (refine brT rfl ?_) | (refine brF rfl ?_) | (refine Exists.intro _ (And.intro rfl ?_)) | (refine Exists.intro _ (Exists.intro _ (And.intro rfl ?_))))); try (conv => whnf)
      have hi0 : unseen s ≤ m.length := by have := unseen_le s; omega
      refine ⟨Nat × List Bool × Int × List Int, fun a => unseen a.2.1 ≤ a.1 ∧ a.2.1.length = m.length ∧ (0 ≤ a.2.2.1 ∧ a.2.2.1 < m.length) ∧ a.2.2.2.length + a.1 ≤ m.length ∧ innF m a.1 a.2.1 a.2.2.1 a.2.2.2 = innF m m.length s i [], fun a => a.1, fun a => [(0, .il m), (3, .own 0 0 out.length), (4, .own 1 0 m.length), (13, .i m.length), (14, .i i), (6, .own 2 0 a.2.2.2.length), (7, .i a.2.2.1)], fun a => [.arr (.list (.int .i64)) out true, .arr .bool a.2.1 true, .arr (.int .i64) a.2.2.2 true], ⟨(m.length, s, i, []), ⟨.frz [], [0, 1, 2], ⟨rfl, rfl, rfl, rfl, rfl, rfl, rfl, trivial⟩, ⟨rfl, rfl, rfl, trivial⟩, by decide, rfl, rfl, rfl⟩, hi0, hs, by simpa using h, by simp, rfl⟩, fun ⟨k, s2, e, own⟩ ⟨g1, g2, g3, g4, g5⟩ => ?_⟩
      dsimp only at g1 g2 g3 g4 g5
      (repeat ((conv => whnf); first | (refine And.intro (by first | omega | (dsimp only; omega) | with_reducible rfl | (simp; done) | (simp; omega) | rfl | exact .inl rfl | exact .inr rfl | (intro hq; simp at hq; done) | (show _ = _; kernel_rfl)) ?_) | (refine brT rfl ?_) | (refine brF rfl ?_) | (refine Exists.intro _ (And.intro rfl ?_)) | (refine Exists.intro _ (Exists.intro _ (And.intro rfl ?_))))); try (conv => whnf)
      refine Br.mk (fun h2 => ?_) (fun h2 => ?_) <;> simp [-Int.ofNat_toNat] at h2
      · have hu := unseen_set s2 e.toNat (by omega) (by simpa using h2)
        have hk : k = (k - 1) + 1 := by omega
        have hr := hin e.toNat (by omega)
        have he : ((e.toNat : Nat) : Int) = e := by omega
        rw [he] at hr
        rw [hk, innF, if_neg (by simpa using h2)] at g5
        (repeat ((conv => whnf); first | (refine And.intro (by first | omega | (dsimp only; omega) | with_reducible rfl | (simp; done) | (simp; omega) | rfl | exact .inl rfl | exact .inr rfl | (intro hq; simp at hq; done) | (show _ = _; kernel_rfl)) ?_) | (refine brT rfl ?_) | (refine brF rfl ?_) | (refine Exists.intro _ (And.intro rfl ?_)) | (refine Exists.intro _ (Exists.intro _ (And.intro rfl ?_))))); try (conv => whnf)
        refine ⟨(k - 1, s2.set e.toNat true, rd m e, own ++ [e]), ⟨.frz [], [0, 1, 4], ⟨rfl, rfl, rfl, rfl, rfl, ?_, rfl, trivial⟩, ⟨rfl, by simp [Obj.ren, frzI, -Int.ofNat_toNat], by simp [Obj.ren, frzI, -Int.ofNat_toNat], trivial⟩, by decide, rfl, rfl, rfl⟩, ⟨?_, by simpa using g2, hr, ?_, g5⟩, ?_⟩
        · show V.own 4 0 _ = V.own 4 0 _
          simp
        · dsimp only; omega
        · simp; omega
        · dsimp only; omega
      · have g6 := innF_out (m := m) k s2 e own (by simpa using h2)
        rw [g6] at g5
        rw [← g5] at hc
        (repeat ((conv => whnf); first | (refine And.intro (by first | omega | (dsimp only; omega) | with_reducible rfl | (simp; done) | (simp; omega) | rfl | exact .inl rfl | exact .inr rfl | (intro hq; simp at hq; done) | (show _ = _; kernel_rfl)) ?_) | (refine brT rfl ?_) | (refine brF rfl ?_) | (refine Exists.intro _ (And.intro rfl ?_)) | (refine Exists.intro _ (Exists.intro _ (And.intro rfl ?_))))); try (conv => whnf)
        refine Or.inl ⟨_, rfl, rfl, rfl, ?_⟩
        (repeat ((conv => whnf); first | (refine And.intro (by first | omega | (dsimp only; omega) | with_reducible rfl | (simp; done) | (simp; omega) | rfl | exact .inl rfl | exact .inr rfl | (intro hq; simp at hq; done) | (show _ = _; kernel_rfl)) ?_) | (refine brT rfl ?_) | (refine brF rfl ?_) | (refine Exists.intro _ (And.intro rfl ?_)) | (refine Exists.intro _ (Exists.intro _ (And.intro rfl ?_))))); try (conv => whnf)
        refine Or.inl ⟨_, _, rfl, rfl, by decide, rfl, rfl, rfl, rfl, by simp; omega, ?_⟩
        (repeat ((conv => whnf); first | (refine And.intro (by first | omega | (dsimp only; omega) | with_reducible rfl | (simp; done) | (simp; omega) | rfl | exact .inl rfl | exact .inr rfl | (intro hq; simp at hq; done) | (show _ = _; kernel_rfl)) ?_) | (refine brT rfl ?_) | (refine brF rfl ?_) | (refine Exists.intro _ (And.intro rfl ?_)) | (refine Exists.intro _ (Exists.intro _ (And.intro rfl ?_))))); try (conv => whnf)
        refine ⟨(i + 1, s2, out ++ [own]), ⟨.frz [], [4, 1], ⟨rfl, ?_, rfl, rfl, rfl, trivial⟩, ⟨by simp [Obj.ren, frzI, -Int.ofNat_toNat], by simp [Obj.ren, frzI, -Int.ofNat_toNat], trivial⟩, by decide, rfl, rfl, rfl⟩, ⟨h, g2, by simp; omega, hc⟩, by dsimp only; omega⟩
        show V.own 4 0 _ = V.own 4 0 _
        simp
  · (repeat ((conv => whnf); first | (refine And.intro (by first | omega | (dsimp only; omega) | with_reducible rfl | (simp; done) | (simp; omega) | rfl | exact .inl rfl | exact .inr rfl | (intro hq; simp at hq; done) | (show _ = _; kernel_rfl)) ?_) | (refine brT rfl ?_) | (refine brF rfl ?_) | (refine Exists.intro _ (And.intro rfl ?_)) | (refine Exists.intro _ (Exists.intro _ (And.intro rfl ?_))))); try (conv => whnf)
    obtain rfl : i = m.length := Nat.le_antisymm hi h
    simp [cycF] at hc
    subst hc
    exact ⟨.frz [], [0], ⟨rfl, trivial⟩, ⟨rfl, trivial⟩, by decide, rfl, rfl, rfl⟩
/-- Cycles hold places of the list only, and are no more than its places. -/
theorem innF_in {m : List Int} (hin : InR' m) : ∀ (k : Nat) (s : List Bool) (e : Int) (own : List Int), 0 ≤ e ∧ e < m.length → (∀ x ∈ own, 0 ≤ x ∧ x < m.length) → ∀ x ∈ (innF m k s e own).2, 0 ≤ x ∧ x < m.length
  | 0, s, e, own, _, ho => ho
  | k + 1, s, e, own, he, ho => by
    unfold innF
    split
    · exact ho
    · refine innF_in hin k _ _ _ ?_ fun x hx => ?_
      · have := hin e.toNat (by omega)
        rwa [show ((e.toNat : Nat) : Int) = e by omega] at this
      · rcases List.mem_append.1 hx with h | h
        · exact ho x h
        · simp at h; subst h; exact he
theorem cycF_in {m : List Int} (hin : InR' m) : ∀ (k d : Nat) (s : List Bool) (out : List (List Int)), d + k ≤ m.length → (∀ r ∈ out, ∀ x ∈ r, 0 ≤ x ∧ x < (m.length : Int)) → ∀ r ∈ cycF m k d s out, ∀ x ∈ r, 0 ≤ x ∧ x < (m.length : Int)
  | 0, d, s, out, _, ho => ho
  | k + 1, d, s, out, hd, ho => by
    unfold cycF
    split
    · exact cycF_in hin k _ _ _ (by omega) ho
    · refine cycF_in hin k _ _ _ (by omega) fun r hr => ?_
      rcases List.mem_append.1 hr with h | h
      · exact ho r h
      · simp at h; subst h
        exact innF_in hin _ _ _ _ (by omega) (by simp)
theorem cyc_in {m : List Int} (hin : InR' m) : ∀ r ∈ cyc m, ∀ x ∈ r, 0 ≤ x ∧ x < (m.length : Int) := cycF_in hin _ _ _ _ (by omega) (by simp)
theorem cycF_length {m : List Int} : ∀ (k d : Nat) (s : List Bool) (out : List (List Int)), (cycF m k d s out).length ≤ out.length + k
  | 0, d, s, out => Nat.le_refl _
  | k + 1, d, s, out => by
    unfold cycF
    split
    · have := cycF_length (m := m) k (d + 1) s out; omega
    · have := cycF_length (m := m) k (d + 1) (innF m m.length s d []).1 (out ++ [(innF m m.length s d []).2])
      simp at this; omega
theorem cyc_length (m : List Int) : (cyc m).length ≤ m.length := by
  have := cycF_length (m := m) m.length 0 (List.replicate m.length false) []
  simpa [cyc] using this
theorem innF_len {m : List Int} : ∀ (k : Nat) (s : List Bool) (e : Int) (own : List Int), (innF m k s e own).2.length ≤ own.length + k
  | 0, s, e, own => Nat.le_refl _
  | k + 1, s, e, own => by
    unfold innF
    split
    · dsimp only; omega
    · have := innF_len (m := m) k (s.set e.toNat true) (rd m e) (own ++ [e]); simp at this; omega
theorem cycF_len {m : List Int} : ∀ (k d : Nat) (s : List Bool) (out : List (List Int)), (∀ r ∈ out, r.length ≤ m.length) → ∀ r ∈ cycF m k d s out, r.length ≤ m.length
  | 0, d, s, out, ho => ho
  | k + 1, d, s, out, ho => by
    unfold cycF
    split
    · exact cycF_len k _ _ _ ho
    · refine cycF_len k _ _ _ fun r hr => ?_
      rcases List.mem_append.1 hr with h | h
      · exact ho r h
      · simp at h; subst h
        have := innF_len (m := m) m.length s d []
        simpa using this
theorem cyc_len (m : List Int) : ∀ r ∈ cyc m, r.length ≤ m.length := cycF_len _ _ _ _ (by simp)
/-- What isPerm tells. -/
theorem isMap_facts {m : List Int} (h : isMap m = true) : m.length ≤ 24 ∧ 2 ≤ m.length ∧ m.length % 2 = 0 ∧ InR' m := by
  simp only [isMap, Bool.and_eq_true, decide_eq_true_eq] at h
  obtain ⟨⟨h1, h2⟩, h3, h4⟩ := h
  refine ⟨by omega, by omega, ?_, fun i hi => permF_in h4 i hi⟩
  have := Int.tmod_eq_emod_of_nonneg (a := (m.length : Int)) (b := 2) (by omega)
  omega
theorem dualF_in {m : List Int} (hin : InR' m) (he : m.length % 2 = 0) : InR' (dualF m) := fun i hi => by
  rw [dualF_length] at hi
  have h1 := mate_in he hi
  have h2 := hin (mate i).toNat (by omega)
  rw [show (((mate i).toNat : Nat) : Int) = mate i by omega] at h2
  rw [show rd (dualF m) i = rd m (mate i) by
    have := dualF_get m hi
    simp [rd, List.getD_eq_getElem?_getD, this]]
  rw [dualF_length]; exact h2
end Go.Proofs.YtbcdcbamdahnpaaTv
end
section
open Go Go.Proofs.YtbcdcbamdahnpaaVe Go.Proofs.YtbcdcbamdahnpaaTv Go.Proofs
namespace Go.Proofs.YtbcdcbamdahnpaaTv
set_option maxRecDepth 8000
set_option maxHeartbeats 2000000
theorem drop_consR {l : List (List Int)} {i : Nat} (h : i < l.length) : l.drop i = rdR l i :: l.drop (i + 1) := by
  rw [List.drop_eq_getElem_cons h]
  simp [rdR, h]
theorem FacesOf (m : List Int) (hm : (m.length : Int) ≤ 1048576) : ConT Try.prog 53 [.il m] (.own 0 0 (if isMap m = true then cyc (dualF m) else []).length) [.arr (.list (.int .i64)) (if isMap m = true then cyc (dualF m) else []) true] := by
  refine conT_of hmix hTab Try.func53 rfl rfl (by kernel_rfl) (by show 1 ≤ Try.f53.ntmps; decide) ?_
  (repeat ((conv => whnf); first | (refine And.intro (by first | omega | (dsimp only; omega) | with_reducible rfl | (simp; done) | (simp; omega) | rfl | exact .inl rfl | exact .inr rfl | (intro hq; simp at hq; done) | (show _ = _; kernel_rfl)) ?_) | (refine brT rfl ?_) | (refine brF rfl ?_) | (refine Exists.intro _ (And.intro rfl ?_)) | (refine Exists.intro _ (Exists.intro _ (And.intro rfl ?_))))); try (conv => whnf)
  refine .inl ⟨_, _, _, (IsMapS m hm).toT, ⟨⟨_, rfl, rfl⟩, trivial⟩, ?_⟩
  (repeat ((conv => whnf); first | (refine And.intro (by first | omega | (dsimp only; omega) | with_reducible rfl | (simp; done) | (simp; omega) | rfl | exact .inl rfl | exact .inr rfl | (intro hq; simp at hq; done) | (show _ = _; kernel_rfl)) ?_) | (refine brT rfl ?_) | (refine brF rfl ?_) | (refine Exists.intro _ (And.intro rfl ?_)) | (refine Exists.intro _ (Exists.intro _ (And.intro rfl ?_))))); try (conv => whnf)
  refine Br.mk (fun h => ?_) (fun h => ?_) <;> simp [-Int.ofNat_toNat] at h
  · rw [if_neg (by simpa using h)]
    (repeat ((conv => whnf); first | (refine And.intro (by first | omega | (dsimp only; omega) | with_reducible rfl | (simp; done) | (simp; omega) | rfl | exact .inl rfl | exact .inr rfl | (intro hq; simp at hq; done) | (show _ = _; kernel_rfl)) ?_) | (refine brT rfl ?_) | (refine brF rfl ?_) | (refine Exists.intro _ (And.intro rfl ?_)) | (refine Exists.intro _ (Exists.intro _ (And.intro rfl ?_))))); try (conv => whnf)
    refine Or.inl ?_
    (repeat ((conv => whnf); first | (refine And.intro (by first | omega | (dsimp only; omega) | with_reducible rfl | (simp; done) | (simp; omega) | rfl | exact .inl rfl | exact .inr rfl | (intro hq; simp at hq; done) | (show _ = _; kernel_rfl)) ?_) | (refine brT rfl ?_) | (refine brF rfl ?_) | (refine Exists.intro _ (And.intro rfl ?_)) | (refine Exists.intro _ (Exists.intro _ (And.intro rfl ?_))))); try (conv => whnf)
    exact ⟨.frz [], [0], ⟨rfl, trivial⟩, ⟨rfl, trivial⟩, by decide, rfl, rfl, rfl⟩
  · obtain ⟨h1, h2, h3, h4⟩ := isMap_facts h
    rw [if_pos h]
    (repeat ((conv => whnf); first | (refine And.intro (by first | omega | (dsimp only; omega) | with_reducible rfl | (simp; done) | (simp; omega) | rfl | exact .inl rfl | exact .inr rfl | (intro hq; simp at hq; done) | (show _ = _; kernel_rfl)) ?_) | (refine brT rfl ?_) | (refine brF rfl ?_) | (refine Exists.intro _ (And.intro rfl ?_)) | (refine Exists.intro _ (Exists.intro _ (And.intro rfl ?_))))); try (conv => whnf)
    refine .inl ⟨_, _, _, l6Dual m h1 h3, ⟨⟨_, rfl, rfl⟩, trivial⟩, ?_⟩
    (repeat ((conv => whnf); first | (refine And.intro (by first | omega | (dsimp only; omega) | with_reducible rfl | (simp; done) | (simp; omega) | rfl | exact .inl rfl | exact .inr rfl | (intro hq; simp at hq; done) | (show _ = _; kernel_rfl)) ?_) | (refine brT rfl ?_) | (refine brF rfl ?_) | (refine Exists.intro _ (And.intro rfl ?_)) | (refine Exists.intro _ (Exists.intro _ (And.intro rfl ?_))))); try (conv => whnf)
    refine .inl ⟨_, _, _, l6Cycles (dualF m) (by rw [dualF_length]; exact h1) (dualF_in h4 h3), ⟨⟨_, _, rfl, by simp [dualF_length], by simp [dualF, List.take_of_length_le]⟩, trivial⟩, ?_⟩
    (repeat ((conv => whnf); first | (refine And.intro (by first | omega | (dsimp only; omega) | with_reducible rfl | (simp; done) | (simp; omega) | rfl | exact .inl rfl | exact .inr rfl | (intro hq; simp at hq; done) | (show _ = _; kernel_rfl)) ?_) | (refine brT rfl ?_) | (refine brF rfl ?_) | (refine Exists.intro _ (And.intro rfl ?_)) | (refine Exists.intro _ (Exists.intro _ (And.intro rfl ?_))))); try (conv => whnf)
    exact ⟨.frz [], [1], ⟨rfl, trivial⟩, ⟨rfl, trivial⟩, by decide, rfl, rfl, rfl⟩
/-- Faces: each dart's number of a cycle. -/
def setAll (k : Int) : List Int → List Int → List Int
  | [], out => out
  | e :: r, out => setAll k r (out.set e.toNat k)
def fillF : Int → List (List Int) → List Int → List Int
  | _, [], out => out
  | k, r :: rs, out => fillF (k + 1) rs (setAll k r out)
theorem setAll_length (k : Int) : ∀ (r out : List Int), (setAll k r out).length = out.length
  | [], out => rfl
  | e :: r, out => by rw [setAll, setAll_length k r]; simp
theorem fillF_length : ∀ (k : Int) (rs : List (List Int)) (out : List Int), (fillF k rs out).length = out.length
  | _, [], out => rfl
  | k, r :: rs, out => by rw [fillF, fillF_length _ rs, setAll_length]
def faces (m : List Int) : List Int := fillF 0 (cyc (dualF m)) (List.replicate m.length 0)
@[simp] theorem faces_length (m : List Int) : (faces m).length = m.length := by simp [faces, fillF_length]
theorem l22Faces (m : List Int) (h24 : m.length ≤ 24) (he : m.length % 2 = 0) (hin : InR' m) : ConT Try.prog 55 [.il m] (.own 0 0 m.length) [.arr (.int .i64) (faces m) true] := by
  refine conT_of hmix hTab Try.func55 rfl rfl (by kernel_rfl) (by show 1 ≤ Try.f55.ntmps; decide) ?_
  (repeat ((conv => whnf); first | (refine And.intro (by first | omega | (dsimp only; omega) | with_reducible rfl | (simp; done) | (simp; omega) | rfl | exact .inl rfl | exact .inr rfl | (intro hq; simp at hq; done) | (show _ = _; kernel_rfl)) ?_) | (refine brT rfl ?_) | (refine brF rfl ?_) | (refine Exists.intro _ (And.intro rfl ?_)) | (refine Exists.intro _ (Exists.intro _ (And.intro rfl ?_))))); try (conv => whnf)
  refine .inl ⟨_, _, _, l6Dual m h24 he, ⟨⟨_, rfl, rfl⟩, trivial⟩, ?_⟩
  (repeat ((conv => whnf); first | (refine And.intro (by first | omega | (dsimp only; omega) | with_reducible rfl | (simp; done) | (simp; omega) | rfl | exact .inl rfl | exact .inr rfl | (intro hq; simp at hq; done) | (show _ = _; kernel_rfl)) ?_) | (refine brT rfl ?_) | (refine brF rfl ?_) | (refine Exists.intro _ (And.intro rfl ?_)) | (refine Exists.intro _ (Exists.intro _ (And.intro rfl ?_))))); try (conv => whnf)
  refine .inl ⟨_, _, _, l6Cycles (dualF m) (by rw [dualF_length]; exact h24) (dualF_in hin he), ⟨⟨_, _, rfl, by simp [dualF_length], by simp [dualF, List.take_of_length_le]⟩, trivial⟩, ?_⟩
  (repeat ((conv => whnf); first | (refine And.intro (by first | omega | (dsimp only; omega) | with_reducible rfl | (simp; done) | (simp; omega) | rfl | exact .inl rfl | exact .inr rfl | (intro hq; simp at hq; done) | (show _ = _; kernel_rfl)) ?_) | (refine brT rfl ?_) | (refine brF rfl ?_) | (refine Exists.intro _ (And.intro rfl ?_)) | (refine Exists.intro _ (Exists.intro _ (And.intro rfl ?_))))); try (conv => whnf)
  have hcl : (cyc (dualF m)).length ≤ 24 := by have := cyc_length (dualF m); rw [dualF_length] at this; omega
  have hci := cyc_in (dualF_in hin he)
  have hcn := cyc_len (dualF m)
  rw [dualF_length] at hci hcn
  refine ⟨Nat × List Int, fun a => a.1 ≤ (cyc (dualF m)).length ∧ a.2.length = m.length ∧ fillF a.1 ((cyc (dualF m)).drop a.1) a.2 = faces m, fun a => (cyc (dualF m)).length - a.1, fun a => [(0, .il m), (3, .own 0 0 m.length), (4, .own 1 0 (cyc (dualF m)).length), (5, .i a.1)], fun a => [.arr (.int .i64) a.2 true, .frz (.list (.int .i64)) (cyc (dualF m))], ⟨(0, List.replicate m.length 0), ⟨.frz [2], [0, 2], ⟨rfl, rfl, rfl, rfl, trivial⟩, ⟨rfl, rfl, trivial⟩, by decide, rfl, rfl, rfl⟩, by simp [faces]⟩, fun ⟨k, out⟩ ⟨hk, ho, hf⟩ => ?_⟩
  dsimp only at hk ho hf
  (repeat ((conv => whnf); first | (refine And.intro (by first | omega | (dsimp only; omega) | with_reducible rfl | (simp; done) | (simp; omega) | rfl | exact .inl rfl | exact .inr rfl | (intro hq; simp at hq; done) | (show _ = _; kernel_rfl)) ?_) | (refine brT rfl ?_) | (refine brF rfl ?_) | (refine Exists.intro _ (And.intro rfl ?_)) | (refine Exists.intro _ (Exists.intro _ (And.intro rfl ?_))))); try (conv => whnf)
  refine Br.mk (fun h => ?_) (fun h => ?_) <;> simp [-Int.ofNat_toNat] at h
  · (repeat ((conv => whnf); first | (refine And.intro (by first | omega | (dsimp only; omega) | with_reducible rfl | (simp; done) | (simp; omega) | rfl | exact .inl rfl | exact .inr rfl | (intro hq; simp at hq; done) | (show _ = _; kernel_rfl)) ?_) | (refine brT rfl ?_) | (refine brF rfl ?_) | (refine Exists.intro _ (And.intro rfl ?_)) | (refine Exists.intro _ (Exists.intro _ (And.intro rfl ?_))))); try (conv => whnf)
    rw [drop_consR h, fillF] at hf
    generalize hr : rdR (cyc (dualF m)) k = row at hf
    have hmem : row ∈ cyc (dualF m) := by rw [← hr]; simp [rdR, h]
    have hr2 : rdT (.list (.int .i64)) (cyc (dualF m)) ↑(0 + (k : Int).toNat) = row := by rw [← hr]; simp [rdR]
    have hci := hci row hmem
    have hcn := hcn row hmem
    refine ⟨Nat × List Int, fun a => a.1 ≤ row.length ∧ a.2.length = m.length ∧ setAll k (row.drop a.1) a.2 = setAll k row out, fun a => row.length - a.1, fun a => [(0, .il m), (3, .own 0 0 m.length), (4, .own 1 0 (cyc (dualF m)).length), (5, .i k), (6, .i a.1)], fun a => [.arr (.int .i64) a.2 true, .frz (.list (.int .i64)) (cyc (dualF m))], ⟨(0, out), ⟨.frz [], [0, 1], ⟨rfl, rfl, rfl, rfl, rfl, trivial⟩, ⟨rfl, rfl, trivial⟩, by decide, rfl, rfl, rfl⟩, by simp [ho]⟩, fun ⟨j, out2⟩ ⟨hj, ho2, hf2⟩ => ?_⟩
    dsimp only at hj ho2 hf2
    (repeat ((conv => whnf); first | (refine And.intro (by first | omega | (dsimp only; omega) | with_reducible rfl | (simp; done) | (simp; omega) | rfl | exact .inl rfl | exact .inr rfl | (intro hq; simp at hq; done) | (show _ = _; kernel_rfl)) ?_) | (refine brT rfl ?_) | (refine brF rfl ?_) | (refine Exists.intro _ (And.intro rfl ?_)) | (refine Exists.intro _ (Exists.intro _ (And.intro rfl ?_))))); try (conv => whnf)
    simp only [hr2]
    refine Br.mk (fun h1 => ?_) (fun h1 => ?_) <;> simp [-Int.ofNat_toNat] at h1
    · rw [drop_cons h1, setAll] at hf2
      have hx := hci (rd row j) (by simp [rd, h1])
      (repeat ((conv => whnf); first | (refine And.intro (by first | omega | (dsimp only; omega) | with_reducible rfl | (simp; done) | (simp; omega) | rfl | exact .inl rfl | exact .inr rfl | (intro hq; simp at hq; done) | (show _ = _; kernel_rfl)) ?_) | (refine brT rfl ?_) | (refine brF rfl ?_) | (refine Exists.intro _ (And.intro rfl ?_)) | (refine Exists.intro _ (Exists.intro _ (And.intro rfl ?_))))); try (conv => whnf)
      simp only [hr2]
      (repeat ((conv => whnf); first | (refine And.intro (by first | omega | (dsimp only; omega) | with_reducible rfl | (simp; done) | (simp; omega) | rfl | exact .inl rfl | exact .inr rfl | (intro hq; simp at hq; done) | (show _ = _; kernel_rfl)) ?_) | (refine brT rfl ?_) | (refine brF rfl ?_) | (refine Exists.intro _ (And.intro rfl ?_)) | (refine Exists.intro _ (Exists.intro _ (And.intro rfl ?_))))); try (conv => whnf)
      exact ⟨(j + 1, out2.set (rd row j).toNat k), ⟨.frz [], [0, 1], ⟨rfl, rfl, rfl, rfl, rfl, trivial⟩, ⟨by simp [Obj.ren, frzI, -Int.ofNat_toNat], rfl, trivial⟩, by decide, rfl, rfl, rfl⟩, ⟨h1, by simpa using ho2, hf2⟩, by dsimp only; omega⟩
    · (repeat ((conv => whnf); first | (refine And.intro (by first | omega | (dsimp only; omega) | with_reducible rfl | (simp; done) | (simp; omega) | rfl | exact .inl rfl | exact .inr rfl | (intro hq; simp at hq; done) | (show _ = _; kernel_rfl)) ?_) | (refine brT rfl ?_) | (refine brF rfl ?_) | (refine Exists.intro _ (And.intro rfl ?_)) | (refine Exists.intro _ (Exists.intro _ (And.intro rfl ?_))))); try (conv => whnf)
      obtain rfl : j = row.length := Nat.le_antisymm hj h1
      simp [setAll] at hf2
      rw [← hf2] at hf
      exact ⟨(k + 1, out2), ⟨.frz [], [0, 1], ⟨rfl, rfl, rfl, rfl, trivial⟩, ⟨rfl, rfl, trivial⟩, by decide, rfl, rfl, rfl⟩, ⟨h, ho2, by simpa using hf⟩, by dsimp only; omega⟩
  · (repeat ((conv => whnf); first | (refine And.intro (by first | omega | (dsimp only; omega) | with_reducible rfl | (simp; done) | (simp; omega) | rfl | exact .inl rfl | exact .inr rfl | (intro hq; simp at hq; done) | (show _ = _; kernel_rfl)) ?_) | (refine brT rfl ?_) | (refine brF rfl ?_) | (refine Exists.intro _ (And.intro rfl ?_)) | (refine Exists.intro _ (Exists.intro _ (And.intro rfl ?_))))); try (conv => whnf)
    obtain rfl : k = (cyc (dualF m)).length := Nat.le_antisymm hk h
    simp [fillF] at hf
    rw [← hf]
    exact ⟨.frz [], [0], ⟨rfl, trivial⟩, ⟨by simp [Obj.ren, frzI], trivial⟩, by decide, rfl, rfl, rfl⟩
end Go.Proofs.YtbcdcbamdahnpaaTv
end
section
open Go Go.Proofs.YtbcdcbamdahnpaaVe Go.Proofs.YtbcdcbamdahnpaaTv Go.Proofs
namespace Go.Proofs.YtbcdcbamdahnpaaTv
set_option maxRecDepth 8000
set_option maxHeartbeats 2000000
theorem faceOf (m : List Int) (h24 : m.length ≤ 24) (he : m.length % 2 = 0) (hin : InR' m) : ConT Try.prog 57 [.il m] (.tup [.own 0 0 m.length, .i (cyc (dualF m)).length]) [.arr (.int .i64) (faces m) true] := by
  refine conT_of hmix hTab Try.func57 rfl rfl (by kernel_rfl) (by show 1 ≤ Try.f57.ntmps; decide) ?_
  (repeat ((conv => whnf); first | (refine And.intro (by first | omega | (dsimp only; omega) | with_reducible rfl | (simp; done) | (simp; omega) | rfl | exact .inl rfl | exact .inr rfl | (intro hq; simp at hq; done) | (show _ = _; kernel_rfl)) ?_) | (refine brT rfl ?_) | (refine brF rfl ?_) | (refine Exists.intro _ (And.intro rfl ?_)) | (refine Exists.intro _ (Exists.intro _ (And.intro rfl ?_))))); try (conv => whnf)
  refine .inl ⟨_, _, _, dual m h24 he, ⟨⟨_, rfl, rfl⟩, trivial⟩, ?_⟩
  (repeat ((conv => whnf); first | (refine And.intro (by first | omega | (dsimp only; omega) | with_reducible rfl | (simp; done) | (simp; omega) | rfl | exact .inl rfl | exact .inr rfl | (intro hq; simp at hq; done) | (show _ = _; kernel_rfl)) ?_) | (refine brT rfl ?_) | (refine brF rfl ?_) | (refine Exists.intro _ (And.intro rfl ?_)) | (refine Exists.intro _ (Exists.intro _ (And.intro rfl ?_))))); try (conv => whnf)
  refine .inl ⟨_, _, _, cycles (dualF m) (by rw [dualF_length]; exact h24) (dualF_in hin he), ⟨⟨_, _, rfl, by simp [dualF_length], by simp [dualF, List.take_of_length_le]⟩, trivial⟩, ?_⟩
  (repeat ((conv => whnf); first | (refine And.intro (by first | omega | (dsimp only; omega) | with_reducible rfl | (simp; done) | (simp; omega) | rfl | exact .inl rfl | exact .inr rfl | (intro hq; simp at hq; done) | (show _ = _; kernel_rfl)) ?_) | (refine brT rfl ?_) | (refine brF rfl ?_) | (refine Exists.intro _ (And.intro rfl ?_)) | (refine Exists.intro _ (Exists.intro _ (And.intro rfl ?_))))); try (conv => whnf)
  have hcl : (cyc (dualF m)).length ≤ 24 := by have := cyc_length (dualF m); rw [dualF_length] at this; omega
  have hci := cyc_in (dualF_in hin he)
  have hcn := cyc_len (dualF m)
  rw [dualF_length] at hci hcn
  refine ⟨Nat × List Int, fun a => a.1 ≤ (cyc (dualF m)).length ∧ a.2.length = m.length ∧ fillF a.1 ((cyc (dualF m)).drop a.1) a.2 = faces m, fun a => (cyc (dualF m)).length - a.1, fun a => [(0, .il m), (5, .own 0 0 m.length), (4, .own 1 0 (cyc (dualF m)).length), (16, .own 1 0 (cyc (dualF m)).length), (17, .i (cyc (dualF m)).length), (18, .i a.1)], fun a => [.arr (.int .i64) a.2 true, .frz (.list (.int .i64)) (cyc (dualF m))], ⟨(0, List.replicate m.length 0), ⟨.frz [1], [2, 1], ⟨rfl, rfl, rfl, rfl, rfl, rfl, trivial⟩, ⟨rfl, rfl, trivial⟩, by decide, rfl, rfl, rfl⟩, by simp [faces]⟩, fun ⟨k, out⟩ ⟨hk, ho, hf⟩ => ?_⟩
  dsimp only at hk ho hf
  (repeat ((conv => whnf); first | (refine And.intro (by first | omega | (dsimp only; omega) | with_reducible rfl | (simp; done) | (simp; omega) | rfl | exact .inl rfl | exact .inr rfl | (intro hq; simp at hq; done) | (show _ = _; kernel_rfl)) ?_) | (refine brT rfl ?_) | (refine brF rfl ?_) | (refine Exists.intro _ (And.intro rfl ?_)) | (refine Exists.intro _ (Exists.intro _ (And.intro rfl ?_))))); try (conv => whnf)
  refine Br.mk (fun h => ?_) (fun h => ?_) <;> simp [-Int.ofNat_toNat] at h
  · (repeat ((conv => whnf); first | (refine And.intro (by first | omega | (dsimp only; omega) | with_reducible rfl | (simp; done) | (simp; omega) | rfl | exact .inl rfl | exact .inr rfl | (intro hq; simp at hq; done) | (show _ = _; kernel_rfl)) ?_) | (refine brT rfl ?_) | (refine brF rfl ?_) | (refine Exists.intro _ (And.intro rfl ?_)) | (refine Exists.intro _ (Exists.intro _ (And.intro rfl ?_))))); try (conv => whnf)
    rw [drop_consR h, fillF] at hf
    generalize hr : rdR (cyc (dualF m)) k = row at hf
    have hmem : row ∈ cyc (dualF m) := by rw [← hr]; simp [rdR, h]
    have hr2 : rdT (.list (.int .i64)) (cyc (dualF m)) ↑(0 + (k : Int).toNat) = row := by rw [← hr]; simp [rdR]
    have hci := hci row hmem
    have hcn := hcn row hmem
    simp only [hr2]
    refine ⟨Nat × List Int, fun a => a.1 ≤ row.length ∧ a.2.length = m.length ∧ setAll k (row.drop a.1) a.2 = setAll k row out, fun a => row.length - a.1, fun a => [(0, .il m), (5, .own 0 0 m.length), (4, .own 1 0 (cyc (dualF m)).length), (16, .own 1 0 (cyc (dualF m)).length), (17, .i (cyc (dualF m)).length), (18, .i k), (6, .i k), (23, .il row), (24, .i row.length), (25, .i a.1)], fun a => [.arr (.int .i64) a.2 true, .frz (.list (.int .i64)) (cyc (dualF m))], ⟨(0, out), ⟨.frz [], [0, 1], ⟨rfl, rfl, rfl, rfl, rfl, rfl, rfl, rfl, rfl, rfl, trivial⟩, ⟨rfl, rfl, trivial⟩, by decide, rfl, rfl, rfl⟩, by simp [ho]⟩, fun ⟨j, out2⟩ ⟨hj, ho2, hf2⟩ => ?_⟩
    dsimp only at hj ho2 hf2
    (repeat ((conv => whnf); first | (refine And.intro (by first | omega | (dsimp only; omega) | with_reducible rfl | (simp; done) | (simp; omega) | rfl | exact .inl rfl | exact .inr rfl | (intro hq; simp at hq; done) | (show _ = _; kernel_rfl)) ?_) | (refine brT rfl ?_) | (refine brF rfl ?_) | (refine Exists.intro _ (And.intro rfl ?_)) | (refine Exists.intro _ (Exists.intro _ (And.intro rfl ?_))))); try (conv => whnf)
    refine Br.mk (fun h1 => ?_) (fun h1 => ?_) <;> simp [-Int.ofNat_toNat] at h1
    · rw [drop_cons h1, setAll] at hf2
      have hx := hci (rd row j) (by simp [rd, h1])
      (repeat ((conv => whnf); first | (refine And.intro (by first | omega | (dsimp only; omega) | with_reducible rfl | (simp; done) | (simp; omega) | rfl | exact .inl rfl | exact .inr rfl | (intro hq; simp at hq; done) | (show _ = _; kernel_rfl)) ?_) | (refine brT rfl ?_) | (refine brF rfl ?_) | (refine Exists.intro _ (And.intro rfl ?_)) | (refine Exists.intro _ (Exists.intro _ (And.intro rfl ?_))))); try (conv => whnf)
      exact ⟨(j + 1, out2.set (rd row j).toNat k), ⟨.frz [], [0, 1], ⟨rfl, rfl, rfl, rfl, rfl, rfl, rfl, rfl, rfl, rfl, trivial⟩, ⟨by simp [Obj.ren, frzI, -Int.ofNat_toNat], rfl, trivial⟩, by decide, rfl, rfl, rfl⟩, ⟨h1, by simpa using ho2, hf2⟩, by dsimp only; omega⟩
    · (repeat ((conv => whnf); first | (refine And.intro (by first | omega | (dsimp only; omega) | with_reducible rfl | (simp; done) | (simp; omega) | rfl | exact .inl rfl | exact .inr rfl | (intro hq; simp at hq; done) | (show _ = _; kernel_rfl)) ?_) | (refine brT rfl ?_) | (refine brF rfl ?_) | (refine Exists.intro _ (And.intro rfl ?_)) | (refine Exists.intro _ (Exists.intro _ (And.intro rfl ?_))))); try (conv => whnf)
      obtain rfl : j = row.length := Nat.le_antisymm hj h1
      simp [setAll] at hf2
      rw [← hf2] at hf
      exact ⟨(k + 1, out2), ⟨.frz [], [0, 1], ⟨rfl, rfl, rfl, rfl, rfl, rfl, trivial⟩, ⟨rfl, rfl, trivial⟩, by decide, rfl, rfl, rfl⟩, ⟨h, ho2, by simpa using hf⟩, by dsimp only; omega⟩
  · (repeat ((conv => whnf); first | (refine And.intro (by first | omega | (dsimp only; omega) | with_reducible rfl | (simp; done) | (simp; omega) | rfl | exact .inl rfl | exact .inr rfl | (intro hq; simp at hq; done) | (show _ = _; kernel_rfl)) ?_) | (refine brT rfl ?_) | (refine brF rfl ?_) | (refine Exists.intro _ (And.intro rfl ?_)) | (refine Exists.intro _ (Exists.intro _ (And.intro rfl ?_))))); try (conv => whnf)
    obtain rfl : k = (cyc (dualF m)).length := Nat.le_antisymm hk h
    simp [fillF] at hf
    rw [← hf]
    exact ⟨.frz [], [0], ⟨rfl, trivial⟩, ⟨by simp [Obj.ren, frzI], trivial⟩, by decide, rfl, rfl, rfl⟩
/-- The colours of two faces beside one edge. -/
def badC (c : List Int) (a b : Int) : Bool := decide (a = b) || (decide (a < c.length) && (decide (b < c.length) && decide (rd c a = rd c b)))
def fine (f c : List Int) : Bool := (List.range f.length).all fun p => decide (p % 2 = 1) || !badC c (rd f p) (rd f ((p : Int) + 1))
theorem fine_iff {f c : List Int} : fine f c = true ↔ ∀ p : Nat, p < f.length → p % 2 = 0 → badC c (rd f p) (rd f ((p : Int) + 1)) = false := by
  simp only [fine, List.all_eq_true, List.mem_range, Bool.or_eq_true, decide_eq_true_eq, Bool.not_eq_true']
  refine ⟨fun h p h1 h2 => ?_, fun h p h1 => ?_⟩
  · rcases h p h1 with h3 | h3
    · omega
    · exact h3
  · by_cases h2 : p % 2 = 1
    · exact .inl h2
    · exact .inr (h p h1 (by omega))
theorem l22Fine (f c : List Int) (hf : f.length ≤ 24) (he : f.length % 2 = 0) (hpos : ∀ i : Nat, i < f.length → 0 ≤ rd f i) : ConS Try.prog 54 [.il f, .il c] (.b (fine f c)) := by
  refine conS_of hmix hTab Try.func54 rfl rfl (by kernel_rfl) (by show 2 ≤ Try.f54.ntmps; decide) rfl ?_
  (repeat ((conv => whnf); first | (refine And.intro (by first | omega | (dsimp only; omega) | with_reducible rfl | (simp; done) | (simp; omega) | rfl | exact .inl rfl | exact .inr rfl | (intro hq; simp at hq; done) | (show _ = _; kernel_rfl)) ?_) | (refine brT rfl ?_) | (refine brF rfl ?_) | (refine Exists.intro _ (And.intro rfl ?_)) | (refine Exists.intro _ (Exists.intro _ (And.intro rfl ?_))))); try (conv => whnf)
  refine ⟨Nat, fun i => i ≤ f.length ∧ i % 2 = 0 ∧ ∀ p : Nat, p < i → p % 2 = 0 → badC c (rd f p) (rd f ((p : Int) + 1)) = false, fun i => f.length - i, fun i => [(0, .il f), (1, .il c), (5, .i i)], fun i => [], ⟨0, ⟨.frz [], [], ⟨rfl, rfl, rfl, trivial⟩, trivial, by decide, rfl, rfl, rfl⟩, by simp⟩, fun i ⟨hi, h2i, hk⟩ => ?_⟩
  (repeat ((conv => whnf); first | (refine And.intro (by first | omega | (dsimp only; omega) | with_reducible rfl | (simp; done) | (simp; omega) | rfl | exact .inl rfl | exact .inr rfl | (intro hq; simp at hq; done) | (show _ = _; kernel_rfl)) ?_) | (refine brT rfl ?_) | (refine brF rfl ?_) | (refine Exists.intro _ (And.intro rfl ?_)) | (refine Exists.intro _ (Exists.intro _ (And.intro rfl ?_))))); try (conv => whnf)
  refine Br.mk (fun h => ?_) (fun h => ?_) <;> simp [-Int.ofNat_toNat] at h
  · (repeat ((conv => whnf); first | (refine And.intro (by first | omega | (dsimp only; omega) | with_reducible rfl | (simp; done) | (simp; omega) | rfl | exact .inl rfl | exact .inr rfl | (intro hq; simp at hq; done) | (show _ = _; kernel_rfl)) ?_) | (refine brT rfl ?_) | (refine brF rfl ?_) | (refine Exists.intro _ (And.intro rfl ?_)) | (refine Exists.intro _ (Exists.intro _ (And.intro rfl ?_))))); try (conv => whnf)
    have hp1 := hpos i (by omega)
    have hp2 := hpos (i + 1) (by omega)
    have e2 : ((i + 1 : Nat) : Int) = (i : Int) + 1 := by omega
    rw [e2] at hp2
    have hbad : badC c (rd f i) (rd f ((i : Int) + 1)) = true → fine f c = false := fun e => by
      refine Bool.eq_false_iff.2 fun e1 => ?_
      rw [fine_iff.1 e1 i (by omega) h2i] at e
      cases e
    have hgood : badC c (rd f i) (rd f ((i : Int) + 1)) = false → ∀ p : Nat, p < i + 2 → p % 2 = 0 → badC c (rd f p) (rd f ((p : Int) + 1)) = false := fun e p hp hp2 => by
      by_cases ej : p = i
      · rw [ej]; exact e
      · exact hk p (by omega) hp2
    have next : badC c (rd f i) (rd f ((i : Int) + 1)) = false → i + 2 ≤ f.length ∧ (i + 2) % 2 = 0 ∧ ∀ p : Nat, p < i + 2 → p % 2 = 0 → badC c (rd f p) (rd f ((p : Int) + 1)) = false := fun e => ⟨by omega, by omega, hgood e⟩
    refine Br.mk (fun h1 => ?_) (fun h1 => ?_) <;> simp [-Int.ofNat_toNat] at h1
    · (repeat ((conv => whnf); first | (refine And.intro (by first | omega | (dsimp only; omega) | with_reducible rfl | (simp; done) | (simp; omega) | rfl | exact .inl rfl | exact .inr rfl | (intro hq; simp at hq; done) | (show _ = _; kernel_rfl)) ?_) | (refine brT rfl ?_) | (refine brF rfl ?_) | (refine Exists.intro _ (And.intro rfl ?_)) | (refine Exists.intro _ (Exists.intro _ (And.intro rfl ?_))))); try (conv => whnf)
      simp [hbad (by simp [badC, h1])]
    · (repeat ((conv => whnf); first | (refine And.intro (by first | omega | (dsimp only; omega) | with_reducible rfl | (simp; done) | (simp; omega) | rfl | exact .inl rfl | exact .inr rfl | (intro hq; simp at hq; done) | (show _ = _; kernel_rfl)) ?_) | (refine brT rfl ?_) | (refine brF rfl ?_) | (refine Exists.intro _ (And.intro rfl ?_)) | (refine Exists.intro _ (Exists.intro _ (And.intro rfl ?_))))); try (conv => whnf)
      refine Br.mk (fun h2 => ?_) (fun h2 => ?_) <;> simp [-Int.ofNat_toNat] at h2
      · (repeat ((conv => whnf); first | (refine And.intro (by first | omega | (dsimp only; omega) | with_reducible rfl | (simp; done) | (simp; omega) | rfl | exact .inl rfl | exact .inr rfl | (intro hq; simp at hq; done) | (show _ = _; kernel_rfl)) ?_) | (refine brT rfl ?_) | (refine brF rfl ?_) | (refine Exists.intro _ (And.intro rfl ?_)) | (refine Exists.intro _ (Exists.intro _ (And.intro rfl ?_))))); try (conv => whnf)
        refine Br.mk (fun h3 => ?_) (fun h3 => ?_) <;> simp [-Int.ofNat_toNat] at h3
        · (repeat ((conv => whnf); first | (refine And.intro (by first | omega | (dsimp only; omega) | with_reducible rfl | (simp; done) | (simp; omega) | rfl | exact .inl rfl | exact .inr rfl | (intro hq; simp at hq; done) | (show _ = _; kernel_rfl)) ?_) | (refine brT rfl ?_) | (refine brF rfl ?_) | (refine Exists.intro _ (And.intro rfl ?_)) | (refine Exists.intro _ (Exists.intro _ (And.intro rfl ?_))))); try (conv => whnf)
          refine Br.mk (fun h4 => ?_) (fun h4 => ?_) <;> simp [-Int.ofNat_toNat] at h4
          · (repeat ((conv => whnf); first | (refine And.intro (by first | omega | (dsimp only; omega) | with_reducible rfl | (simp; done) | (simp; omega) | rfl | exact .inl rfl | exact .inr rfl | (intro hq; simp at hq; done) | (show _ = _; kernel_rfl)) ?_) | (refine brT rfl ?_) | (refine brF rfl ?_) | (refine Exists.intro _ (And.intro rfl ?_)) | (refine Exists.intro _ (Exists.intro _ (And.intro rfl ?_))))); try (conv => whnf)
            simp [hbad (by simp [badC, h2, h3, h4])]
          · (repeat ((conv => whnf); first | (refine And.intro (by first | omega | (dsimp only; omega) | with_reducible rfl | (simp; done) | (simp; omega) | rfl | exact .inl rfl | exact .inr rfl | (intro hq; simp at hq; done) | (show _ = _; kernel_rfl)) ?_) | (refine brT rfl ?_) | (refine brF rfl ?_) | (refine Exists.intro _ (And.intro rfl ?_)) | (refine Exists.intro _ (Exists.intro _ (And.intro rfl ?_))))); try (conv => whnf)
            exact ⟨i + 2, ⟨.frz [], [], ⟨rfl, rfl, rfl, trivial⟩, trivial, by decide, rfl, rfl, rfl⟩, next (by simp [badC, h1, h4]), by dsimp only; omega⟩
        · (repeat ((conv => whnf); first | (refine And.intro (by first | omega | (dsimp only; omega) | with_reducible rfl | (simp; done) | (simp; omega) | rfl | exact .inl rfl | exact .inr rfl | (intro hq; simp at hq; done) | (show _ = _; kernel_rfl)) ?_) | (refine brT rfl ?_) | (refine brF rfl ?_) | (refine Exists.intro _ (And.intro rfl ?_)) | (refine Exists.intro _ (Exists.intro _ (And.intro rfl ?_))))); try (conv => whnf)
          exact ⟨i + 2, ⟨.frz [], [], ⟨rfl, rfl, rfl, trivial⟩, trivial, by decide, rfl, rfl, rfl⟩, next (by simp [badC, h1, h2]; omega), by dsimp only; omega⟩
      · (repeat ((conv => whnf); first | (refine And.intro (by first | omega | (dsimp only; omega) | with_reducible rfl | (simp; done) | (simp; omega) | rfl | exact .inl rfl | exact .inr rfl | (intro hq; simp at hq; done) | (show _ = _; kernel_rfl)) ?_) | (refine brT rfl ?_) | (refine brF rfl ?_) | (refine Exists.intro _ (And.intro rfl ?_)) | (refine Exists.intro _ (Exists.intro _ (And.intro rfl ?_))))); try (conv => whnf)
        exact ⟨i + 2, ⟨.frz [], [], ⟨rfl, rfl, rfl, trivial⟩, trivial, by decide, rfl, rfl, rfl⟩, next (by simp [badC, h1]; omega), by dsimp only; omega⟩
  · (repeat ((conv => whnf); first | (refine And.intro (by first | omega | (dsimp only; omega) | with_reducible rfl | (simp; done) | (simp; omega) | rfl | exact .inl rfl | exact .inr rfl | (intro hq; simp at hq; done) | (show _ = _; kernel_rfl)) ?_) | (refine brT rfl ?_) | (refine brF rfl ?_) | (refine Exists.intro _ (And.intro rfl ?_)) | (refine Exists.intro _ (Exists.intro _ (And.intro rfl ?_))))); try (conv => whnf)
    have : fine f c = true := fine_iff.2 fun p hp h2p => hk p (by omega) h2p
    simp [this]
end Go.Proofs.YtbcdcbamdahnpaaTv
end
section
open Go Go.Proofs.YtbcdcbamdahnpaaVe Go.Proofs.YtbcdcbamdahnpaaTv Go.Proofs
namespace Go.Proofs.YtbcdcbamdahnpaaTv
set_option maxRecDepth 8000
set_option maxHeartbeats 2000000
/-- Each dart's face is a number below the count of faces. -/
def Lt (n : Int) (l : List Int) : Prop := ∀ x ∈ l, 0 ≤ x ∧ x < n
theorem setAll_lt {n k : Int} (hk : 0 ≤ k ∧ k < n) : ∀ (r out : List Int), Lt n out → Lt n (setAll k r out)
  | [], out, h => h
  | e :: r, out, h => setAll_lt hk r _ fun x hx => by
    rcases List.mem_or_eq_of_mem_set hx with h1 | h1
    · exact h x h1
    · rw [h1]; exact hk
theorem fillF_lt {n : Int} : ∀ (rs : List (List Int)) (k : Int) (out : List Int), 0 ≤ k → k + rs.length ≤ n → Lt n out → Lt n (fillF k rs out)
  | [], k, out, _, _, h => h
  | r :: rs, k, out, h0, hk, h => fillF_lt rs (k + 1) _ (by omega) (by simp at hk; omega) (setAll_lt (by simp at hk; omega) _ _ h)
theorem cycF_ge {m : List Int} : ∀ (k d : Nat) (s : List Bool) (out : List (List Int)), out.length ≤ (cycF m k d s out).length
  | 0, d, s, out => Nat.le_refl _
  | k + 1, d, s, out => by
    unfold cycF
    split
    · exact cycF_ge k _ _ _
    · refine Nat.le_trans ?_ (cycF_ge k _ _ _)
      simp
theorem cyc_pos {m : List Int} (h : 0 < m.length) : 0 < (cyc m).length := by
  unfold cyc
  generalize hk : m.length = k at *
  cases k with
  | zero => omega
  | succ k =>
    rw [cycF, if_neg (by simp [List.replicate_succ])]
    refine Nat.lt_of_lt_of_le ?_ (cycF_ge k _ _ _)
    simp
theorem faces_lt {m : List Int} (h : 0 < m.length) : Lt (cyc (dualF m)).length (faces m) := by
  refine fillF_lt _ _ _ (by omega) (by omega) fun x hx => ?_
  have := cyc_pos (m := dualF m) (by rw [dualF_length]; exact h)
  simp at hx
  omega
theorem faces_in {m : List Int} {i : Nat} (h : i < m.length) : 0 ≤ rd (faces m) i ∧ rd (faces m) i < (cyc (dualF m)).length := by
  refine faces_lt (by omega) _ ?_
  have := faces_length m
  simp [rd, this, h]
def isCol (m c : List Int) : Bool := isMap m && (decide (c.length = (cyc (dualF m)).length) && fine (faces m) c)
theorem IsColouringS (m c : List Int) (hm : (m.length : Int) ≤ 1048576) : ConS Try.prog 8 [.il m, .il c] (.b (isCol m c)) := by
  refine conS_of hmix hTab Try.func8 rfl rfl (by kernel_rfl) (by show 2 ≤ Try.f8.ntmps; decide) rfl ?_
  (repeat ((conv => whnf); first | (refine And.intro (by first | omega | (dsimp only; omega) | with_reducible rfl | (simp; done) | (simp; omega) | rfl | exact .inl rfl | exact .inr rfl | (intro hq; simp at hq; done) | (show _ = _; kernel_rfl)) ?_) | (refine brT rfl ?_) | (refine brF rfl ?_) | (refine Exists.intro _ (And.intro rfl ?_)) | (refine Exists.intro _ (Exists.intro _ (And.intro rfl ?_))))); try (conv => whnf)
  refine .inl ⟨_, _, _, (IsMapS m hm).toT, ⟨⟨_, rfl, rfl⟩, trivial⟩, ?_⟩
  (repeat ((conv => whnf); first | (refine And.intro (by first | omega | (dsimp only; omega) | with_reducible rfl | (simp; done) | (simp; omega) | rfl | exact .inl rfl | exact .inr rfl | (intro hq; simp at hq; done) | (show _ = _; kernel_rfl)) ?_) | (refine brT rfl ?_) | (refine brF rfl ?_) | (refine Exists.intro _ (And.intro rfl ?_)) | (refine Exists.intro _ (Exists.intro _ (And.intro rfl ?_))))); try (conv => whnf)
  refine Br.mk (fun h => ?_) (fun h => ?_)
  · obtain ⟨h1, h2, h3, h4⟩ := isMap_facts h
    (repeat ((conv => whnf); first | (refine And.intro (by first | omega | (dsimp only; omega) | with_reducible rfl | (simp; done) | (simp; omega) | rfl | exact .inl rfl | exact .inr rfl | (intro hq; simp at hq; done) | (show _ = _; kernel_rfl)) ?_) | (refine brT rfl ?_) | (refine brF rfl ?_) | (refine Exists.intro _ (And.intro rfl ?_)) | (refine Exists.intro _ (Exists.intro _ (And.intro rfl ?_))))); try (conv => whnf)
    refine .inl ⟨_, _, _, FacesOf m hm, ⟨⟨_, rfl, rfl⟩, trivial⟩, ?_⟩
    rw [if_pos h]
    (repeat ((conv => whnf); first | (refine And.intro (by first | omega | (dsimp only; omega) | with_reducible rfl | (simp; done) | (simp; omega) | rfl | exact .inl rfl | exact .inr rfl | (intro hq; simp at hq; done) | (show _ = _; kernel_rfl)) ?_) | (refine brT rfl ?_) | (refine brF rfl ?_) | (refine Exists.intro _ (And.intro rfl ?_)) | (refine Exists.intro _ (Exists.intro _ (And.intro rfl ?_))))); try (conv => whnf)
    refine Br.mk (fun h5 => ?_) (fun h5 => ?_) <;> simp [-Int.ofNat_toNat] at h5
    · have h5 : c.length = (cyc (dualF m)).length := by omega
      (repeat ((conv => whnf); first | (refine And.intro (by first | omega | (dsimp only; omega) | with_reducible rfl | (simp; done) | (simp; omega) | rfl | exact .inl rfl | exact .inr rfl | (intro hq; simp at hq; done) | (show _ = _; kernel_rfl)) ?_) | (refine brT rfl ?_) | (refine brF rfl ?_) | (refine Exists.intro _ (And.intro rfl ?_)) | (refine Exists.intro _ (Exists.intro _ (And.intro rfl ?_))))); try (conv => whnf)
      refine .inl ⟨_, _, _, l22Faces m h1 h3 h4, ⟨⟨_, rfl, rfl⟩, trivial⟩, ?_⟩
      (repeat ((conv => whnf); first | (refine And.intro (by first | omega | (dsimp only; omega) | with_reducible rfl | (simp; done) | (simp; omega) | rfl | exact .inl rfl | exact .inr rfl | (intro hq; simp at hq; done) | (show _ = _; kernel_rfl)) ?_) | (refine brT rfl ?_) | (refine brF rfl ?_) | (refine Exists.intro _ (And.intro rfl ?_)) | (refine Exists.intro _ (Exists.intro _ (And.intro rfl ?_))))); try (conv => whnf)
      refine .inl ⟨_, _, _, (l22Fine (faces m) c (by rw [faces_length]; exact h1) (by rw [faces_length]; exact h3) (fun i hi => (faces_in (by rwa [faces_length] at hi)).1)).toT, ⟨⟨_, _, rfl, by simp [faces_length], by simp [List.take_of_length_le, faces_length]⟩, ⟨_, rfl, rfl⟩, trivial⟩, ?_⟩
      (repeat ((conv => whnf); first | (refine And.intro (by first | omega | (dsimp only; omega) | with_reducible rfl | (simp; done) | (simp; omega) | rfl | exact .inl rfl | exact .inr rfl | (intro hq; simp at hq; done) | (show _ = _; kernel_rfl)) ?_) | (refine brT rfl ?_) | (refine brF rfl ?_) | (refine Exists.intro _ (And.intro rfl ?_)) | (refine Exists.intro _ (Exists.intro _ (And.intro rfl ?_))))); try (conv => whnf)
      simp [isCol, h, h5]
    · have h5 : c.length ≠ (cyc (dualF m)).length := by omega
      (repeat ((conv => whnf); first | (refine And.intro (by first | omega | (dsimp only; omega) | with_reducible rfl | (simp; done) | (simp; omega) | rfl | exact .inl rfl | exact .inr rfl | (intro hq; simp at hq; done) | (show _ = _; kernel_rfl)) ?_) | (refine brT rfl ?_) | (refine brF rfl ?_) | (refine Exists.intro _ (And.intro rfl ?_)) | (refine Exists.intro _ (Exists.intro _ (And.intro rfl ?_))))); try (conv => whnf)
      simp [isCol, h5]
  · (repeat ((conv => whnf); first | (refine And.intro (by first | omega | (dsimp only; omega) | with_reducible rfl | (simp; done) | (simp; omega) | rfl | exact .inl rfl | exact .inr rfl | (intro hq; simp at hq; done) | (show _ = _; kernel_rfl)) ?_) | (refine brT rfl ?_) | (refine brF rfl ?_) | (refine Exists.intro _ (And.intro rfl ?_)) | (refine Exists.intro _ (Exists.intro _ (And.intro rfl ?_))))); try (conv => whnf)
    simp [isCol, h]
theorem fine_all {m c : List Int} (h2m : m.length % 2 = 0) (hc : c.length = (cyc (dualF m)).length) : fine (faces m) c = true ↔ ∀ i : Nat, i < m.length → rd c (rd (faces m) i) ≠ rd c (rd (faces m) (mate i)) := by
  rw [fine_iff, faces_length]
  have hbad : ∀ i : Nat, i < m.length → i % 2 = 0 → (badC c (rd (faces m) i) (rd (faces m) ((i : Int) + 1)) = false ↔ rd c (rd (faces m) i) ≠ rd c (rd (faces m) ((i : Int) + 1))) := fun i hi h2 => by
    have f1 := faces_in (m := m) hi
    have f2 := faces_in (m := m) (i := i + 1) (by omega)
    rw [show ((i + 1 : Nat) : Int) = (i : Int) + 1 by omega] at f2
    simp only [badC, Bool.or_eq_false_iff, decide_eq_false_iff_not, Bool.and_eq_false_iff, hc]
    refine ⟨fun ⟨_, e⟩ => ?_, fun e => ⟨fun e1 => e (by rw [e1]), .inr (.inr e)⟩⟩
    rcases e with e | e | e
    · omega
    · omega
    · exact e
  refine ⟨fun h i hi => ?_, fun h p hp h2p => ?_⟩
  · by_cases h2 : i % 2 = 0
    · have := (hbad i hi h2).1 (h i hi h2)
      rwa [mate, if_pos h2]
    · have h3 := (hbad (i - 1) (by omega) (by omega)).1 (h (i - 1) (by omega) (by omega))
      rw [mate, if_neg h2]
      have e1 : ((i - 1 : Nat) : Int) = (i : Int) - 1 := by omega
      rw [e1] at h3
      simp only [Int.sub_add_cancel] at h3
      exact h3.symm
  · refine (hbad p hp h2p).2 ?_
    have := h p hp
    rwa [mate, if_pos h2p] at this
theorem IsColouringI (m c : List Int) (hm : (m.length : Int) ≤ 1048576) : ConS Try.prog 10 [.il m, .il c] (.b (isCol m c)) := by
  refine conS_of hmix hTab Try.func10 rfl rfl (by kernel_rfl) (by show 2 ≤ Try.f10.ntmps; decide) rfl ?_
  (repeat ((conv => whnf); first | (refine And.intro (by first | omega | (dsimp only; omega) | with_reducible rfl | (simp; done) | (simp; omega) | rfl | exact .inl rfl | exact .inr rfl | (intro hq; simp at hq; done) | (show _ = _; kernel_rfl)) ?_) | (refine brT rfl ?_) | (refine brF rfl ?_) | (refine Exists.intro _ (And.intro rfl ?_)) | (refine Exists.intro _ (Exists.intro _ (And.intro rfl ?_))))); try (conv => whnf)
  refine .inl ⟨_, _, _, (IsMapI m hm).toT, ⟨⟨_, rfl, rfl⟩, trivial⟩, ?_⟩
  (repeat ((conv => whnf); first | (refine And.intro (by first | omega | (dsimp only; omega) | with_reducible rfl | (simp; done) | (simp; omega) | rfl | exact .inl rfl | exact .inr rfl | (intro hq; simp at hq; done) | (show _ = _; kernel_rfl)) ?_) | (refine brT rfl ?_) | (refine brF rfl ?_) | (refine Exists.intro _ (And.intro rfl ?_)) | (refine Exists.intro _ (Exists.intro _ (And.intro rfl ?_))))); try (conv => whnf)
  refine Br.mk (fun h => ?_) (fun h => ?_) <;> simp [-Int.ofNat_toNat] at h
  · (repeat ((conv => whnf); first | (refine And.intro (by first | omega | (dsimp only; omega) | with_reducible rfl | (simp; done) | (simp; omega) | rfl | exact .inl rfl | exact .inr rfl | (intro hq; simp at hq; done) | (show _ = _; kernel_rfl)) ?_) | (refine brT rfl ?_) | (refine brF rfl ?_) | (refine Exists.intro _ (And.intro rfl ?_)) | (refine Exists.intro _ (Exists.intro _ (And.intro rfl ?_))))); try (conv => whnf)
    simp [isCol, h]
  · obtain ⟨h1, h2, h3, h4⟩ := isMap_facts h
    (repeat ((conv => whnf); first | (refine And.intro (by first | omega | (dsimp only; omega) | with_reducible rfl | (simp; done) | (simp; omega) | rfl | exact .inl rfl | exact .inr rfl | (intro hq; simp at hq; done) | (show _ = _; kernel_rfl)) ?_) | (refine brT rfl ?_) | (refine brF rfl ?_) | (refine Exists.intro _ (And.intro rfl ?_)) | (refine Exists.intro _ (Exists.intro _ (And.intro rfl ?_))))); try (conv => whnf)
    refine .inl ⟨_, _, _, faceOf m h1 h3 h4, ⟨⟨_, rfl, rfl⟩, trivial⟩, ?_⟩
    (repeat ((conv => whnf); first | (refine And.intro (by first | omega | (dsimp only; omega) | with_reducible rfl | (simp; done) | (simp; omega) | rfl | exact .inl rfl | exact .inr rfl | (intro hq; simp at hq; done) | (show _ = _; kernel_rfl)) ?_) | (refine brT rfl ?_) | (refine brF rfl ?_) | (refine Exists.intro _ (And.intro rfl ?_)) | (refine Exists.intro _ (Exists.intro _ (And.intro rfl ?_))))); try (conv => whnf)
    have fl := faces_length m
    refine Br.mk (fun h5 => ?_) (fun h5 => ?_) <;> simp [-Int.ofNat_toNat] at h5
    · (repeat ((conv => whnf); first | (refine And.intro (by first | omega | (dsimp only; omega) | with_reducible rfl | (simp; done) | (simp; omega) | rfl | exact .inl rfl | exact .inr rfl | (intro hq; simp at hq; done) | (show _ = _; kernel_rfl)) ?_) | (refine brT rfl ?_) | (refine brF rfl ?_) | (refine Exists.intro _ (And.intro rfl ?_)) | (refine Exists.intro _ (Exists.intro _ (And.intro rfl ?_))))); try (conv => whnf)
      have : c.length ≠ (cyc (dualF m)).length := by omega
      simp [isCol, this]
    · (repeat ((conv => whnf); first | (refine And.intro (by first | omega | (dsimp only; omega) | with_reducible rfl | (simp; done) | (simp; omega) | rfl | exact .inl rfl | exact .inr rfl | (intro hq; simp at hq; done) | (show _ = _; kernel_rfl)) ?_) | (refine brT rfl ?_) | (refine brF rfl ?_) | (refine Exists.intro _ (And.intro rfl ?_)) | (refine Exists.intro _ (Exists.intro _ (And.intro rfl ?_))))); try (conv => whnf)
      have h5 : c.length = (cyc (dualF m)).length := by omega
      refine ⟨Nat, fun i => i ≤ m.length ∧ ∀ j : Nat, j < i → rd c (rd (faces m) j) ≠ rd c (rd (faces m) (mate j)), fun i => m.length - i, fun i => [(0, .il m), (1, .il c), (5, .own 0 0 m.length), (21, .i m.length), (22, .i i)], fun i => [.arr (.int .i64) (faces m) true], ⟨0, ⟨.frz [], [0], ⟨rfl, rfl, rfl, rfl, rfl, trivial⟩, ⟨rfl, trivial⟩, by decide, rfl, rfl, rfl⟩, by simp⟩, fun i ⟨hi, hk⟩ => ?_⟩
      (repeat ((conv => whnf); first | (refine And.intro (by first | omega | (dsimp only; omega) | with_reducible rfl | (simp; done) | (simp; omega) | rfl | exact .inl rfl | exact .inr rfl | (intro hq; simp at hq; done) | (show _ = _; kernel_rfl)) ?_) | (refine brT rfl ?_) | (refine brF rfl ?_) | (refine Exists.intro _ (And.intro rfl ?_)) | (refine Exists.intro _ (Exists.intro _ (And.intro rfl ?_))))); try (conv => whnf)
      refine Br.mk (fun h6 => ?_) (fun h6 => ?_) <;> simp [-Int.ofNat_toNat] at h6
      · (repeat ((conv => whnf); first | (refine And.intro (by first | omega | (dsimp only; omega) | with_reducible rfl | (simp; done) | (simp; omega) | rfl | exact .inl rfl | exact .inr rfl | (intro hq; simp at hq; done) | (show _ = _; kernel_rfl)) ?_) | (refine brT rfl ?_) | (refine brF rfl ?_) | (refine Exists.intro _ (And.intro rfl ?_)) | (refine Exists.intro _ (Exists.intro _ (And.intro rfl ?_))))); try (conv => whnf)
        have hx : IntKind.wrap .i64 ((BitVec.ofInt (IntKind.bits .i64) (i : Int) ^^^ BitVec.ofInt (IntKind.bits .i64) 1).toNat : Int) = mate i := xor1 i (by omega)
        have hmt := mate_in h3 h6
        have f1 := faces_in h6
        have f2 := faces_in (m := m) (i := (mate i).toNat) (by omega)
        rw [show (((mate i).toNat : Nat) : Int) = mate i by omega] at f2
        rw [← h5] at f1 f2
        (repeat ((conv => whnf); first | (refine And.intro (by first | omega | (dsimp only; omega) | with_reducible rfl | (simp; done) | (simp; omega) | rfl | exact .inl rfl | exact .inr rfl | (intro hq; simp at hq; done) | (show _ = _; kernel_rfl)) ?_) | (refine brT rfl ?_) | (refine brF rfl ?_) | (refine Exists.intro _ (And.intro rfl ?_)) | (refine Exists.intro _ (Exists.intro _ (And.intro rfl ?_))))); try (conv => whnf)
        rw [hx]
        (repeat ((conv => whnf); first | (refine And.intro (by first | omega | (dsimp only; omega) | with_reducible rfl | (simp; done) | (simp; omega) | rfl | exact .inl rfl | exact .inr rfl | (intro hq; simp at hq; done) | (show _ = _; kernel_rfl)) ?_) | (refine brT rfl ?_) | (refine brF rfl ?_) | (refine Exists.intro _ (And.intro rfl ?_)) | (refine Exists.intro _ (Exists.intro _ (And.intro rfl ?_))))); try (conv => whnf)
        refine And.intro (by rw [show ((0 + (mate i).toNat : Nat) : Int) = mate i by omega]; exact f2) ?_
        (repeat ((conv => whnf); first | (refine And.intro (by first | omega | (dsimp only; omega) | with_reducible rfl | (simp; done) | (simp; omega) | rfl | exact .inl rfl | exact .inr rfl | (intro hq; simp at hq; done) | (show _ = _; kernel_rfl)) ?_) | (refine brT rfl ?_) | (refine brF rfl ?_) | (refine Exists.intro _ (And.intro rfl ?_)) | (refine Exists.intro _ (Exists.intro _ (And.intro rfl ?_))))); try (conv => whnf)
        refine Br.mk (fun h7 => ?_) (fun h7 => ?_)
        all_goals rw [show ((0 + (mate i).toNat : Nat) : Int) = mate i by omega] at h7
        all_goals simp at h7
        · (repeat ((conv => whnf); first | (refine And.intro (by first | omega | (dsimp only; omega) | with_reducible rfl | (simp; done) | (simp; omega) | rfl | exact .inl rfl | exact .inr rfl | (intro hq; simp at hq; done) | (show _ = _; kernel_rfl)) ?_) | (refine brT rfl ?_) | (refine brF rfl ?_) | (refine Exists.intro _ (And.intro rfl ?_)) | (refine Exists.intro _ (Exists.intro _ (And.intro rfl ?_))))); try (conv => whnf)
          have : fine (faces m) c = false := Bool.eq_false_iff.2 fun e => (fine_all h3 h5).1 e i h6 h7
          simp [isCol, this]
        · (repeat ((conv => whnf); first | (refine And.intro (by first | omega | (dsimp only; omega) | with_reducible rfl | (simp; done) | (simp; omega) | rfl | exact .inl rfl | exact .inr rfl | (intro hq; simp at hq; done) | (show _ = _; kernel_rfl)) ?_) | (refine brT rfl ?_) | (refine brF rfl ?_) | (refine Exists.intro _ (And.intro rfl ?_)) | (refine Exists.intro _ (Exists.intro _ (And.intro rfl ?_))))); try (conv => whnf)
          refine ⟨i + 1, ⟨.frz [], [0], ⟨rfl, rfl, rfl, rfl, rfl, trivial⟩, ⟨rfl, trivial⟩, by decide, rfl, rfl, rfl⟩, ⟨h6, fun j hj => ?_⟩, by dsimp only; omega⟩
          by_cases ej : j = i
          · rw [ej]; exact h7
          · exact hk j (by omega)
      · (repeat ((conv => whnf); first | (refine And.intro (by first | omega | (dsimp only; omega) | with_reducible rfl | (simp; done) | (simp; omega) | rfl | exact .inl rfl | exact .inr rfl | (intro hq; simp at hq; done) | (show _ = _; kernel_rfl)) ?_) | (refine brT rfl ?_) | (refine brF rfl ?_) | (refine Exists.intro _ (And.intro rfl ?_)) | (refine Exists.intro _ (Exists.intro _ (And.intro rfl ?_))))); try (conv => whnf)
        have : fine (faces m) c = true := (fine_all h3 h5).2 fun j hj => hk j (by omega)
        simp [isCol, this, h, h5]
end Go.Proofs.YtbcdcbamdahnpaaTv
end
