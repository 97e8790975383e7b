/- What functions of the program give: each contract holds for all arguments that its own sentence names. -/
import Derived.Test.YtffiddkignmobaaDoorTv5
import Derived.Test.YtffiddkignmobaaDoorProg
set_option linter.unusedVariables false
set_option linter.unusedSimpArgs false
section
open Go Go.Proofs.YtffiddkignmobaaDoorVe Go.Proofs.YtffiddkignmobaaDoorTv Go.Proofs
namespace Go.Proofs.YtffiddkignmobaaDoorTv
set_option maxRecDepth 8000
set_option maxHeartbeats 2000000
def tab : List (Nat × TE) := [(1, ⟨.fnil, .other, 8⟩), (3, ⟨.int .i64, .int .i64, 8⟩), (4, ⟨.bool, .bool, 1⟩), (5, ⟨.int .u8, .int .u8, 1⟩), (9, ⟨.str, .str, 16⟩), (23, ⟨.pair (.int .i64) (.pair (.int .i64) (.pair (.int .i64) (.pair (.int .i64) (.unit)))), .st [(0, 1), (1, 1), (2, 1), (3, 1)], 32⟩), (24, ⟨.fnil, .other, 8⟩), (25, ⟨.pair (.int .i64) (.pair (.int .i64) (.pair (.int .i64) (.pair (.int .i64) (.unit)))), .st [(0, 1), (1, 1), (2, 1), (3, 1)], 32⟩), (26, ⟨.fnil, .other, 8⟩), (27, ⟨.fnil, .other, 8⟩), (28, ⟨.list (.int .i64), .sl 3, 24⟩), (29, ⟨.fnil, .other, 8⟩), (30, ⟨.fnil, .other, 8⟩), (31, ⟨.fnil, .other, 8⟩), (32, ⟨.fnil, .other, 8⟩), (33, ⟨.list (.list (.int .i64)), .sl 28, 24⟩), (34, ⟨.fnil, .other, 8⟩), (35, ⟨.fnil, .other, 8⟩), (36, ⟨.fnil, .other, 8⟩), (37, ⟨.fnil, .other, 8⟩), (38, ⟨.fnil, .other, 8⟩), (39, ⟨.fnil, .other, 8⟩), (40, ⟨.fnil, .other, 8⟩), (41, ⟨.fnil, .other, 8⟩), (42, ⟨.fnil, .other, 8⟩), (43, ⟨.fnil, .other, 8⟩), (44, ⟨.list (.pair (.int .i64) (.pair (.int .i64) (.unit))), .sl 48, 24⟩), (45, ⟨.fnil, .other, 8⟩), (46, ⟨.fnil, .other, 8⟩), (48, ⟨.pair (.int .i64) (.pair (.int .i64) (.unit)), .st [(0, 1), (1, 1)], 16⟩), (49, ⟨.fnil, .other, 8⟩), (50, ⟨.fnil, .other, 8⟩), (51, ⟨.fnil, .other, 8⟩), (52, ⟨.list (.str), .sl 9, 24⟩), (53, ⟨.fnil, .other, 8⟩), (54, ⟨.fnil, .other, 8⟩), (56, ⟨.fnil, .other, 8⟩), (57, ⟨.fnil, .other, 8⟩), (58, ⟨.fnil, .other, 8⟩), (59, ⟨.list (.pair (.int .i64) (.pair (.int .i64) (.pair (.int .i64) (.unit)))), .sl 64, 24⟩), (61, ⟨.fnil, .other, 8⟩), (62, ⟨.fnil, .other, 8⟩), (64, ⟨.pair (.int .i64) (.pair (.int .i64) (.pair (.int .i64) (.unit))), .st [(0, 1), (1, 1), (2, 1)], 24⟩), (65, ⟨.fnil, .other, 8⟩), (67, ⟨.fnil, .other, 8⟩), (69, ⟨.fnil, .other, 8⟩), (70, ⟨.fnil, .other, 8⟩), (71, ⟨.fnil, .other, 8⟩), (73, ⟨.fnil, .other, 8⟩), (75, ⟨.fnil, .other, 8⟩), (76, ⟨.fnil, .other, 8⟩), (77, ⟨.list (.int .u8), .sl 5, 24⟩), (78, ⟨.fnil, .other, 8⟩), (79, ⟨.fnil, .other, 8⟩), (80, ⟨.fnil, .other, 8⟩), (82, ⟨.fnil, .other, 8⟩), (83, ⟨.fnil, .other, 8⟩), (85, ⟨.fnil, .other, 8⟩), (86, ⟨.fnil, .other, 8⟩), (87, ⟨.fnil, .other, 8⟩), (88, ⟨.fnil, .other, 8⟩), (89, ⟨.fnil, .other, 8⟩), (90, ⟨.fnil, .other, 8⟩), (91, ⟨.fnil, .other, 8⟩), (92, ⟨.fnil, .other, 8⟩), (93, ⟨.fnil, .other, 8⟩), (94, ⟨.fnil, .other, 8⟩), (95, ⟨.fnil, .other, 8⟩), (96, ⟨.fnil, .other, 8⟩), (97, ⟨.fnil, .other, 8⟩), (98, ⟨.fnil, .other, 8⟩), (99, ⟨.fnil, .other, 8⟩), (100, ⟨.fnil, .other, 8⟩), (102, ⟨.fnil, .other, 8⟩), (103, ⟨.fnil, .other, 8⟩), (104, ⟨.fnil, .other, 8⟩), (106, ⟨.fnil, .other, 8⟩), (107, ⟨.fnil, .other, 8⟩), (108, ⟨.fnil, .other, 8⟩), (109, ⟨.fnil, .other, 8⟩), (110, ⟨.fnil, .other, 8⟩), (111, ⟨.pair (.list (.int .i64)) (.unit), .st [(0, 1)], 24⟩), (112, ⟨.pair (.list (.int .i64)) (.unit), .st [(0, 1)], 24⟩), (113, ⟨.fnil, .other, 8⟩), (114, ⟨.int .u64, .int .u64, 8⟩), (115, ⟨.fnil, .other, 8⟩), (116, ⟨.pair (.int .i64) (.pair (.int .i64) (.unit)), .arr 2 3, 16⟩), (117, ⟨.pair (.pair (.int .i64) (.pair (.int .i64) (.unit))) (.pair (.pair (.int .i64) (.pair (.int .i64) (.unit))) (.pair (.pair (.int .i64) (.pair (.int .i64) (.unit))) (.pair (.pair (.int .i64) (.pair (.int .i64) (.unit))) (.pair (.pair (.int .i64) (.pair (.int .i64) (.unit))) (.pair (.pair (.int .i64) (.pair (.int .i64) (.unit))) (.pair (.pair (.int .i64) (.pair (.int .i64) (.unit))) (.pair (.pair (.int .i64) (.pair (.int .i64) (.unit))) (.pair (.pair (.int .i64) (.pair (.int .i64) (.unit))) (.unit))))))))), .arr 9 116, 144⟩), (119, ⟨.fnil, .other, 8⟩), (120, ⟨.fnil, .other, 8⟩), (121, ⟨.fnil, .other, 8⟩), (125, ⟨.fnil, .other, 8⟩), (129, ⟨.fnil, .other, 8⟩), (130, ⟨.fnil, .other, 8⟩), (131, ⟨.list (.bool), .sl 4, 24⟩), (132, ⟨.fnil, .other, 8⟩), (133, ⟨.fnil, .other, 8⟩), (134, ⟨.fnil, .other, 8⟩), (135, ⟨.fnil, .other, 8⟩), (136, ⟨.fnil, .other, 8⟩), (137, ⟨.fnil, .other, 8⟩), (139, ⟨.fnil, .other, 8⟩), (141, ⟨.fnil, .other, 8⟩), (143, ⟨.fnil, .other, 8⟩), (144, ⟨.fnil, .other, 8⟩), (147, ⟨.fnil, .other, 8⟩), (148, ⟨.fnil, .other, 8⟩), (150, ⟨.fnil, .other, 8⟩), (154, ⟨.fnil, .other, 8⟩), (155, ⟨.fnil, .other, 8⟩), (165, ⟨.fnil, .other, 8⟩)]
theorem hmix : Tryd.prog.follows .mixedOrders = true := by kernel_rfl
theorem hTab : TabOk Tryd.prog tab := fun t e h => by
  refine tabAll_ok (l := tab) ?_ t e h
  refine ⟨⟨by kernel_rfl, trivial⟩, ⟨by kernel_rfl, rfl⟩, ⟨by kernel_rfl, trivial⟩, ⟨by kernel_rfl, rfl⟩, ⟨by kernel_rfl, trivial⟩, ⟨by kernel_rfl, trivial⟩, ⟨by kernel_rfl, trivial⟩, ⟨by kernel_rfl, trivial⟩, ⟨by kernel_rfl, trivial⟩, ⟨by kernel_rfl, trivial⟩, ⟨by kernel_rfl, _, rfl, rfl, by decide, by decide, by decide⟩, ⟨by kernel_rfl, trivial⟩, ⟨by kernel_rfl, trivial⟩, ⟨by kernel_rfl, trivial⟩, ⟨by kernel_rfl, trivial⟩, ⟨by kernel_rfl, _, rfl, rfl, by decide, by decide, by decide⟩, ⟨by kernel_rfl, trivial⟩, ⟨by kernel_rfl, trivial⟩, ⟨by kernel_rfl, trivial⟩, ⟨by kernel_rfl, trivial⟩, ⟨by kernel_rfl, trivial⟩, ⟨by kernel_rfl, trivial⟩, ⟨by kernel_rfl, trivial⟩, ⟨by kernel_rfl, trivial⟩, ⟨by kernel_rfl, trivial⟩, ⟨by kernel_rfl, trivial⟩, ⟨by kernel_rfl, _, rfl, rfl, by decide, by decide, by decide⟩, ⟨by kernel_rfl, trivial⟩, ⟨by kernel_rfl, trivial⟩, ⟨by kernel_rfl, trivial⟩, ⟨by kernel_rfl, trivial⟩, ⟨by kernel_rfl, trivial⟩, ⟨by kernel_rfl, trivial⟩, ⟨by kernel_rfl, _, rfl, rfl, by decide, by decide, by decide⟩, ⟨by kernel_rfl, trivial⟩, ⟨by kernel_rfl, trivial⟩, ⟨by kernel_rfl, trivial⟩, ⟨by kernel_rfl, trivial⟩, ⟨by kernel_rfl, trivial⟩, ⟨by kernel_rfl, _, rfl, rfl, by decide, by decide, by decide⟩, ⟨by kernel_rfl, trivial⟩, ⟨by kernel_rfl, trivial⟩, ⟨by kernel_rfl, trivial⟩, ⟨by kernel_rfl, trivial⟩, ⟨by kernel_rfl, trivial⟩, ⟨by kernel_rfl, trivial⟩, ⟨by kernel_rfl, trivial⟩, ⟨by kernel_rfl, trivial⟩, ⟨by kernel_rfl, trivial⟩, ⟨by kernel_rfl, trivial⟩, ⟨by kernel_rfl, trivial⟩, ⟨by kernel_rfl, _, rfl, rfl, by decide, by decide, by decide⟩, ⟨by kernel_rfl, trivial⟩, ⟨by kernel_rfl, trivial⟩, ⟨by kernel_rfl, trivial⟩, ⟨by kernel_rfl, trivial⟩, ⟨by kernel_rfl, trivial⟩, ⟨by kernel_rfl, trivial⟩, ⟨by kernel_rfl, trivial⟩, ⟨by kernel_rfl, trivial⟩, ⟨by kernel_rfl, trivial⟩, ⟨by kernel_rfl, trivial⟩, ⟨by kernel_rfl, trivial⟩, ⟨by kernel_rfl, trivial⟩, ⟨by kernel_rfl, trivial⟩, ⟨by kernel_rfl, trivial⟩, ⟨by kernel_rfl, trivial⟩, ⟨by kernel_rfl, trivial⟩, ⟨by kernel_rfl, trivial⟩, ⟨by kernel_rfl, trivial⟩, ⟨by kernel_rfl, trivial⟩, ⟨by kernel_rfl, trivial⟩, ⟨by kernel_rfl, trivial⟩, ⟨by kernel_rfl, trivial⟩, ⟨by kernel_rfl, trivial⟩, ⟨by kernel_rfl, trivial⟩, ⟨by kernel_rfl, trivial⟩, ⟨by kernel_rfl, trivial⟩, ⟨by kernel_rfl, trivial⟩, ⟨by kernel_rfl, trivial⟩, ⟨by kernel_rfl, trivial⟩, ⟨by kernel_rfl, trivial⟩, ⟨by kernel_rfl, trivial⟩, ⟨by kernel_rfl, trivial⟩, ⟨by kernel_rfl, rfl⟩, ⟨by kernel_rfl, trivial⟩, ⟨by kernel_rfl, trivial⟩, ⟨by kernel_rfl, trivial⟩, ⟨by kernel_rfl, trivial⟩, ⟨by kernel_rfl, trivial⟩, ⟨by kernel_rfl, trivial⟩, ⟨by kernel_rfl, trivial⟩, ⟨by kernel_rfl, trivial⟩, ⟨by kernel_rfl, trivial⟩, ⟨by kernel_rfl, _, rfl, rfl, by decide, by decide, by decide⟩, ⟨by kernel_rfl, trivial⟩, ⟨by kernel_rfl, trivial⟩, ⟨by kernel_rfl, trivial⟩, ⟨by kernel_rfl, trivial⟩, ⟨by kernel_rfl, trivial⟩, ⟨by kernel_rfl, trivial⟩, ⟨by kernel_rfl, trivial⟩, ⟨by kernel_rfl, trivial⟩, ⟨by kernel_rfl, trivial⟩, ⟨by kernel_rfl, trivial⟩, ⟨by kernel_rfl, trivial⟩, ⟨by kernel_rfl, trivial⟩, ⟨by kernel_rfl, trivial⟩, ⟨by kernel_rfl, trivial⟩, ⟨by kernel_rfl, trivial⟩, ⟨by kernel_rfl, trivial⟩, trivial⟩
theorem l1In (a lo hi : Int) : ConS Tryd.prog 105 [.i a, .i lo, .i hi] (.b (decide (lo ≤ a ∧ a ≤ hi))) := by
  refine conS_of hmix hTab Tryd.func105 rfl rfl (by kernel_rfl) (by show 3 ≤ Tryd.f105.ntmps; decide) rfl ?_
  refine stp ?_; try with_reducible exact True.intro
  refine Br.mk (fun h => ?_) (fun h => ?_)
  all_goals refine stp ?_; try with_reducible exact True.intro
  all_goals (simp at h; simp [h])
  omega
theorem within (a lo hi : Int) : ConS Tryd.prog 113 [.i a, .i lo, .i hi] (.b (decide (lo ≤ a ∧ a ≤ hi))) := by
  refine conS_of hmix hTab Tryd.func113 rfl rfl (by kernel_rfl) (by show 3 ≤ Tryd.f113.ntmps; decide) rfl ?_
  refine stp ?_; try with_reducible exact True.intro
  refine Br.mk (fun h => ?_) (fun h => ?_)
  all_goals refine stp ?_; try with_reducible exact True.intro
  all_goals (simp at h; simp [h])
  omega
theorem l1Bit (b : Bool) : ConS Tryd.prog 152 [.b b] (.i (if b = true then 1 else 0)) := by
  refine conS_of hmix hTab Tryd.func152 rfl rfl (by kernel_rfl) (by show 1 ≤ Tryd.f152.ntmps; decide) rfl ?_
  refine stp ?_; try with_reducible exact True.intro
  refine Br.mk (fun h => ?_) (fun h => ?_)
  all_goals refine stp ?_; try with_reducible exact True.intro
  all_goals simp [h, constV]
theorem toIntS (l : List Int) (hl : (l.length : Int) ≤ 1048576) : ConT Tryd.prog 13 [.il l] (.own 0 0 l.length) [.arr (.int .i64) l true] := by
  refine conT_of hmix hTab Tryd.func13 rfl rfl (by kernel_rfl) (by show 1 ≤ Tryd.f13.ntmps; decide) ?_
  refine stp ?_; try with_reducible exact True.intro
  refine ⟨Nat, fun i => i ≤ l.length, fun i => l.length - i, fun i => [(0, .il l), (3, .own 0 0 l.length), (4, .i i)], fun i => [.arr (.int .i64) (l.take i ++ List.replicate (l.length - i) 0) true], ⟨0, ⟨.frz [], [0], ⟨rfl, rfl, rfl, trivial⟩, ⟨rfl, trivial⟩, by decide, rfl, rfl, rfl⟩, Nat.zero_le _⟩, fun i hi => ?_⟩
  refine stp ?_; try with_reducible exact True.intro
  refine Br.mk (fun h => ?_) (fun h => ?_) <;> simp at h
  · refine stp ?_; try with_reducible exact True.intro
    refine ⟨i + 1, ⟨.frz [], [0], ⟨rfl, rfl, rfl, trivial⟩, ⟨?_, trivial⟩, by decide, rfl, rfl, rfl⟩, h, by dsimp only; omega⟩
    refine congrArg (fun x => some (Obj.arr (.int .i64) x true)) ?_
    have := fill_step id l (0 : Int) rfl (rd_get (l := l) (i := (i : Int)) (by simpa using h))
    simpa using this
  · refine stp ?_; try with_reducible exact True.intro
    obtain rfl : i = l.length := Nat.le_antisymm hi h
    exact ⟨.frz [], [0], ⟨rfl, trivial⟩, ⟨by simp [Obj.ren, frzI], trivial⟩, by decide, rfl, rfl, rfl⟩
end Go.Proofs.YtffiddkignmobaaDoorTv
end
section
open Go Go.Proofs.YtffiddkignmobaaDoorVe Go.Proofs.YtffiddkignmobaaDoorTv Go.Proofs
namespace Go.Proofs.YtffiddkignmobaaDoorTv
set_option maxRecDepth 8000
set_option maxHeartbeats 2000000
/-- A law's own checks: rows that are equal. -/
theorem ConS.toT {P : Program} {f : Nat} {args : List V} {rs : V} (h : ConS P f args rs) : ConT P f args rs [] := by
  obtain ⟨h1, h2, h3⟩ := h
  refine ⟨h2, fun m s avs hno hs hS hv => (h3 m s avs hno hs hS hv).mono fun av H' ⟨e1, e2⟩ => ⟨m, e2.symm, hS, Kp.refl m [], Fr.refl m s, ?_⟩⟩
  rw [e1]; exact scal_vt m [] rs h1
theorem eqIntS (l m : List Int) (hl : (l.length : Int) ≤ 274877906944) : ConS Tryd.prog 15 [.il l, .il m] (.b (decide (l = m))) := by
  refine conS_of hmix hTab Tryd.func15 rfl rfl (by kernel_rfl) (by show 2 ≤ Tryd.f15.ntmps; decide) rfl ?_
  refine stp ?_; try with_reducible exact True.intro
  refine Br.mk (fun h => ?_) (fun h => ?_) <;> simp at h
  · refine stp ?_; try with_reducible exact True.intro
    have : l ≠ m := fun e => h (by rw [e])
    simp [this]
  · refine stp ?_; try with_reducible exact True.intro
    refine ⟨Nat, fun i => i ≤ l.length ∧ ∀ k, k < i → rd l k = rd m k, fun i => l.length - i, fun i => [(0, .il l), (1, .il m), (5, .i i)], fun i => [], ⟨0, ⟨.frz [], [], ⟨rfl, rfl, rfl, trivial⟩, trivial, by decide, rfl, rfl, rfl⟩, by simp⟩, fun i ⟨hi, hk⟩ => ?_⟩
    refine stp ?_; try with_reducible exact True.intro
    refine Br.mk (fun h1 => ?_) (fun h1 => ?_) <;> simp at h1
    · refine stp ?_; try with_reducible exact True.intro
      refine Br.mk (fun h2 => ?_) (fun h2 => ?_) <;> simp at h2
      · refine stp ?_; try with_reducible exact True.intro
        have : l ≠ m := fun e => h2 (by rw [e])
        simp [this]
      · refine stp ?_; try with_reducible exact True.intro
        refine ⟨i + 1, ⟨.frz [], [], ⟨rfl, rfl, rfl, trivial⟩, trivial, by decide, rfl, rfl, rfl⟩, ⟨h1, fun k hk1 => ?_⟩, by dsimp only; omega⟩
        by_cases e : k = i
        · rw [e]; exact h2
        · exact hk k (by omega)
    · refine stp ?_; try with_reducible exact True.intro
      have : l = m := by
        refine List.ext_getElem (by omega) fun k h2 h3 => ?_
        have := hk k (by omega)
        simpa [rd, h2, h3] using this
      simp [this]
end Go.Proofs.YtffiddkignmobaaDoorTv
end
section
open Go Go.Proofs.YtffiddkignmobaaDoorVe Go.Proofs.YtffiddkignmobaaDoorTv Go.Proofs
namespace Go.Proofs.YtffiddkignmobaaDoorTv
set_option maxRecDepth 8000
set_option maxHeartbeats 2000000
/-- n, n + 1, .. -/
def marks (n : Int) (k : Nat) : List Int := (List.range k).map fun i => n + (i : Nat)
@[simp] theorem marks_length (n : Int) (k : Nat) : (marks n k).length = k := by simp [marks]
theorem marks_get (n : Int) {k i : Nat} (h : i < k) : (marks n k)[i]? = some (n + i) := by simp [marks, h]
end Go.Proofs.YtffiddkignmobaaDoorTv
end
section
open Go Go.Proofs.YtffiddkignmobaaDoorVe Go.Proofs.YtffiddkignmobaaDoorTv Go.Proofs
namespace Go.Proofs.YtffiddkignmobaaDoorTv
set_option maxRecDepth 8000
set_option maxHeartbeats 2000000
/-- Whether a list has each number below n once; s: the numbers that were seen. -/
def permF (n : Nat) : List Int → List Bool → Bool
  | [], _ => true
  | x :: r, s => if 0 ≤ x ∧ x ≤ (n : Int) - 1 then (if s.getD x.toNat false = true then false else permF n r (s.set x.toNat true)) else false
theorem permF_in {n : Nat} : ∀ {m : List Int} {s : List Bool}, permF n m s = true → ∀ i : Nat, i < m.length → 0 ≤ rd m i ∧ rd m i < n
  | [], _, _, i, hi => by simp at hi
  | x :: r, s, h, i, hi => by
    unfold permF at h
    split at h
    · rename_i hx
      split at h
      · cases h
      · cases i with
        | zero => simp [rd]; omega
        | succ i => have := permF_in h i (by simpa using hi); simpa [rd] using this
    · cases h
def isPerm (m : List Int) : Bool := permF m.length m (List.replicate m.length false)
theorem drop_cons {l : List Int} {i : Nat} (h : i < l.length) : l.drop i = rd l i :: l.drop (i + 1) := by
  rw [List.drop_eq_getElem_cons h]
  simp [rd, h]
theorem l6Perm (m : List Int) (hm : (m.length : Int) ≤ 1048576) : ConS Tryd.prog 115 [.il m] (.b (isPerm m)) := by
  refine conS_of hmix hTab Tryd.func115 rfl rfl (by kernel_rfl) (by show 1 ≤ Tryd.f115.ntmps; decide) rfl ?_
  refine stp ?_; try with_reducible exact True.intro
  refine ⟨Nat × List Bool, fun a => a.1 ≤ m.length ∧ a.2.length = m.length ∧ permF m.length (m.drop a.1) a.2 = isPerm m, fun a => m.length - a.1, fun a => [(0, .il m), (3, .own 0 0 m.length), (4, .i a.1)], fun a => [.arr .bool a.2 true], ⟨(0, List.replicate m.length false), ⟨.frz [], [0], ⟨rfl, rfl, rfl, trivial⟩, ⟨rfl, trivial⟩, by decide, rfl, rfl, rfl⟩, by simp [isPerm]⟩, fun ⟨i, s⟩ ⟨hi, hs, hp⟩ => ?_⟩
  dsimp only at hi hs hp
  refine stp ?_; try with_reducible exact True.intro
  refine Br.mk (fun h => ?_) (fun h => ?_) <;> simp [-Int.ofNat_toNat] at h
  · refine stp ?_; try with_reducible exact True.intro
    refine .inl ⟨_, _, _, (l1In _ _ _).toT, ⟨rfl, rfl, rfl, trivial⟩, ?_⟩
    refine stp ?_; try with_reducible exact True.intro
    rw [drop_cons h, permF] at hp
    refine Br.mk (fun h1 => ?_) (fun h1 => ?_) <;> simp [-Int.ofNat_toNat] at h1
    · refine stp ?_; try with_reducible exact True.intro
      rw [if_neg (fun c => by omega)] at hp
      simp [← hp]
    · refine stp ?_; try with_reducible exact True.intro
      rw [if_pos h1] at hp
      refine Br.mk (fun h2 => ?_) (fun h2 => ?_) <;> simp [-Int.ofNat_toNat] at h2
      · refine stp ?_; try with_reducible exact True.intro
        rw [if_pos (by simpa using h2)] at hp
        simp [← hp]
      · refine stp ?_; try with_reducible exact True.intro
        rw [if_neg (by simpa using h2)] at hp
        refine ⟨(i + 1, s.set (rd m i).toNat true), ⟨.frz [], [0], ⟨rfl, rfl, rfl, trivial⟩, ⟨by simp [Obj.ren, frzI, -Int.ofNat_toNat], trivial⟩, by decide, rfl, rfl, rfl⟩, ⟨h, by simpa using hs, hp⟩, by dsimp only; omega⟩
  · refine stp ?_; try with_reducible exact True.intro
    obtain rfl : i = m.length := by omega
    simp [permF] at hp
    simp [← hp]
end Go.Proofs.YtffiddkignmobaaDoorTv
end
section
open Go Go.Proofs.YtffiddkignmobaaDoorVe Go.Proofs.YtffiddkignmobaaDoorTv Go.Proofs
namespace Go.Proofs.YtffiddkignmobaaDoorTv
set_option maxRecDepth 8000
set_option maxHeartbeats 2000000
theorem isPermutation (m : List Int) (hm : (m.length : Int) ≤ 1048576) : ConS Tryd.prog 121 [.il m] (.b (isPerm m)) := by
  refine conS_of hmix hTab Tryd.func121 rfl rfl (by kernel_rfl) (by show 1 ≤ Tryd.f121.ntmps; decide) rfl ?_
  refine stp ?_; try with_reducible exact True.intro
  refine ⟨Nat × List Bool, fun a => a.1 ≤ m.length ∧ a.2.length = m.length ∧ permF m.length (m.drop a.1) a.2 = isPerm m, fun a => m.length - a.1, fun a => [(0, .il m), (3, .own 0 0 m.length), (9, .il m), (10, .i m.length), (11, .i a.1)], fun a => [.arr .bool a.2 true], ⟨(0, List.replicate m.length false), ⟨.frz [], [0], ⟨rfl, rfl, rfl, rfl, rfl, trivial⟩, ⟨rfl, trivial⟩, by decide, rfl, rfl, rfl⟩, by simp [isPerm]⟩, fun ⟨i, s⟩ ⟨hi, hs, hp⟩ => ?_⟩
  dsimp only at hi hs hp
  refine stp ?_; try with_reducible exact True.intro
  refine Br.mk (fun h => ?_) (fun h => ?_) <;> simp [-Int.ofNat_toNat] at h
  · refine stp ?_; try with_reducible exact True.intro
    refine .inl ⟨_, _, _, (within _ _ _).toT, ⟨rfl, rfl, rfl, trivial⟩, ?_⟩
    refine stp ?_; try with_reducible exact True.intro
    rw [drop_cons h, permF] at hp
    refine Br.mk (fun h1 => ?_) (fun h1 => ?_) <;> simp [-Int.ofNat_toNat] at h1
    · refine stp ?_; try with_reducible exact True.intro
      rw [if_neg (fun c => by omega)] at hp
      simp [← hp]
    · refine stp ?_; try with_reducible exact True.intro
      rw [if_pos h1] at hp
      refine Br.mk (fun h2 => ?_) (fun h2 => ?_) <;> simp [-Int.ofNat_toNat] at h2
      · refine stp ?_; try with_reducible exact True.intro
        rw [if_pos (by simpa using h2)] at hp
        simp [← hp]
      · refine stp ?_; try with_reducible exact True.intro
        rw [if_neg (by simpa using h2)] at hp
        refine ⟨(i + 1, s.set (rd m i).toNat true), ⟨.frz [], [0], ⟨rfl, rfl, rfl, rfl, rfl, trivial⟩, ⟨by simp [Obj.ren, frzI, -Int.ofNat_toNat], trivial⟩, by decide, rfl, rfl, rfl⟩, ⟨h, by simpa using hs, hp⟩, by dsimp only; omega⟩
  · refine stp ?_; try with_reducible exact True.intro
    obtain rfl : i = m.length := by omega
    simp [permF] at hp
    simp [← hp]
def isMap (m : List Int) : Bool := decide (2 ≤ (m.length : Int) ∧ (m.length : Int) ≤ 24) && (decide ((m.length : Int).tmod 2 = 0) && isPerm m)
theorem IsMapS (m : List Int) (hm : (m.length : Int) ≤ 1048576) : ConS Tryd.prog 42 [.il m] (.b (isMap m)) := by
  refine conS_of hmix hTab Tryd.func42 rfl rfl (by kernel_rfl) (by show 1 ≤ Tryd.f42.ntmps; decide) rfl ?_
  refine stp ?_; try with_reducible exact True.intro
  refine .inl ⟨_, _, _, (l1In _ _ _).toT, ⟨rfl, rfl, rfl, trivial⟩, ?_⟩
  refine stp ?_; try with_reducible exact True.intro
  refine Br.mk (fun h1 => ?_) (fun h1 => ?_) <;> simp [-Int.ofNat_toNat] at h1
  · refine stp ?_; try with_reducible exact True.intro
    refine Br.mk (fun h2 => ?_) (fun h2 => ?_) <;> simp [-Int.ofNat_toNat] at h2
    · refine stp ?_; try with_reducible exact True.intro
      refine .inl ⟨_, _, _, (l6Perm m hm).toT, ⟨⟨_, rfl, rfl⟩, trivial⟩, ?_⟩
      refine stp ?_; try with_reducible exact True.intro
      simp [isMap, h1, h2]
    · refine stp ?_; try with_reducible exact True.intro
      simp [isMap, h1, h2]
  · refine stp ?_; try with_reducible exact True.intro
    have : ¬ (2 ≤ (m.length : Int) ∧ (m.length : Int) ≤ 24) := by omega
    simp only [isMap, this, decide_false, Bool.false_and]
theorem IsMapI (m : List Int) (hm : (m.length : Int) ≤ 1048576) : ConS Tryd.prog 48 [.il m] (.b (isMap m)) := by
  refine conS_of hmix hTab Tryd.func48 rfl rfl (by kernel_rfl) (by show 1 ≤ Tryd.f48.ntmps; decide) rfl ?_
  refine stp ?_; try with_reducible exact True.intro
  refine .inl ⟨_, _, _, (within _ _ _).toT, ⟨rfl, rfl, rfl, trivial⟩, ?_⟩
  refine stp ?_; try with_reducible exact True.intro
  refine Br.mk (fun h1 => ?_) (fun h1 => ?_) <;> simp [-Int.ofNat_toNat] at h1
  · refine stp ?_; try with_reducible exact True.intro
    refine Br.mk (fun h2 => ?_) (fun h2 => ?_) <;> simp [-Int.ofNat_toNat] at h2
    · refine stp ?_; try with_reducible exact True.intro
      refine .inl ⟨_, _, _, (isPermutation m hm).toT, ⟨⟨_, rfl, rfl⟩, trivial⟩, ?_⟩
      refine stp ?_; try with_reducible exact True.intro
      simp [isMap, h1, h2]
    · refine stp ?_; try with_reducible exact True.intro
      simp [isMap, h1, h2]
  · refine stp ?_; try with_reducible exact True.intro
    have : ¬ (2 ≤ (m.length : Int) ∧ (m.length : Int) ≤ 24) := by omega
    simp only [isMap, this, decide_false, Bool.false_and]
/-- The other dart of an edge. -/
def mate (d : Nat) : Int := if d % 2 = 0 then d + 1 else d - 1
theorem xor1 : ∀ i : Nat, i < 24 → IntKind.wrap .i64 (BitVec.ofInt 64 (i : Int) ^^^ BitVec.ofInt 64 1).toNat = mate i := by decide +kernel
theorem mate_eq : ∀ i : Nat, i < 24 → (i : Int) + 1 - 2 * ((i : Int).tmod 2) = mate i := by decide +kernel
theorem mate_in {n i : Nat} (h : n % 2 = 0) (hi : i < n) : 0 ≤ mate i ∧ mate i < n := by unfold mate; split <;> omega
def dualF (m : List Int) : List Int := (List.range m.length).map fun d => rd m (mate d)
theorem dualF_length (m : List Int) : (dualF m).length = m.length := by simp [dualF]
theorem dualF_get (m : List Int) {i : Nat} (h : i < m.length) : (dualF m)[i]? = some (rd m (mate i)) := by simp [dualF, h]
theorem dual (m : List Int) (h24 : m.length ≤ 24) (he : m.length % 2 = 0) : ConT Tryd.prog 123 [.il m] (.own 0 0 m.length) [.arr (.int .i64) (dualF m) true] := by
  refine conT_of hmix hTab Tryd.func123 rfl rfl (by kernel_rfl) (by show 1 ≤ Tryd.f123.ntmps; decide) ?_
  refine stp ?_; try with_reducible exact True.intro
  refine ⟨Nat, fun i => i ≤ m.length, fun i => m.length - i, fun i => [(0, .il m), (3, .own 0 0 m.length), (9, .i m.length), (10, .i i)], fun i => [.arr (.int .i64) ((dualF m).take i ++ List.replicate (m.length - i) 0) true], ⟨0, ⟨.frz [], [0], ⟨rfl, rfl, rfl, rfl, trivial⟩, ⟨rfl, trivial⟩, by decide, rfl, rfl, rfl⟩, Nat.zero_le _⟩, fun i hi => ?_⟩
  dsimp only at hi
  have hdl := dualF_length m
  refine stp ?_; try with_reducible exact True.intro
  refine Br.mk (fun h => ?_) (fun h => ?_) <;> simp [-Int.ofNat_toNat] at h
  · refine stp ?_; try with_reducible exact True.intro
    have hx := xor1 i (by omega)
    have hmt := mate_in he h
    refine And.intro (by rw [← hx] at hmt; exact hmt) ?_
    refine stp ?_; try with_reducible exact True.intro
    refine ⟨i + 1, ⟨.frz [], [0], ⟨rfl, rfl, rfl, rfl, trivial⟩, ⟨?_, trivial⟩, by decide, rfl, rfl, rfl⟩, h, by dsimp only; omega⟩
    refine congrArg (fun x => some (Obj.arr (.int .i64) x true)) ?_
    have h1 := fill_step id (dualF m) (0 : Int) (dualF_length m).symm (dualF_get m h)
    rw [← hx] at h1
    simp at h1 ⊢
    exact h1
  · refine stp ?_; try with_reducible exact True.intro
    obtain rfl : i = m.length := Nat.le_antisymm hi h
    exact ⟨.frz [], [0], ⟨rfl, trivial⟩, ⟨by simp [Obj.ren, frzI, ← dualF_length m], trivial⟩, by decide, rfl, rfl, rfl⟩
theorem l6Mate (a : Int) (ha : 0 ≤ a ∧ a ≤ 100) : ConS Tryd.prog 211 [.i a] (.i (a + 1 - 2 * (a.tmod 2))) := by
  refine conS_of hmix hTab Tryd.func211 rfl rfl (by kernel_rfl) (by show 1 ≤ Tryd.f211.ntmps; decide) rfl ?_
  have := Int.tmod_nonneg 2 ha.1
  have := Int.tmod_lt_of_pos a (show (0 : Int) < 2 by omega)
  refine stp ?_; try with_reducible exact True.intro
theorem l6Dual (m : List Int) (h24 : m.length ≤ 24) (he : m.length % 2 = 0) : ConT Tryd.prog 117 [.il m] (.own 0 0 m.length) [.arr (.int .i64) (dualF m) true] := by
  refine conT_of hmix hTab Tryd.func117 rfl rfl (by kernel_rfl) (by show 1 ≤ Tryd.f117.ntmps; decide) ?_
  refine stp ?_; try with_reducible exact True.intro
  refine ⟨Nat, fun i => i ≤ m.length, fun i => m.length - i, fun i => [(0, .il m), (3, .own 0 0 i), (4, .i i)], fun i => [.arr (.int .i64) ((dualF m).take i) true], ⟨0, ⟨.frz [], [0], ⟨rfl, rfl, rfl, trivial⟩, ⟨rfl, trivial⟩, by decide, rfl, rfl, rfl⟩, Nat.zero_le _⟩, fun i hi => ?_⟩
  dsimp only at hi
  have hdl := dualF_length m
  refine stp ?_; try with_reducible exact True.intro
  refine Br.mk (fun h => ?_) (fun h => ?_) <;> simp [-Int.ofNat_toNat] at h
  · refine stp ?_; try with_reducible exact True.intro
    refine .inl ⟨_, _, _, (l6Mate _ (by omega)).toT, ⟨rfl, trivial⟩, ?_⟩
    have hx := mate_eq i (by omega)
    have hmt := mate_in he h
    refine stp ?_; try with_reducible exact True.intro
    refine ⟨i + 1, ⟨.frz [], [2], ⟨rfl, rfl, rfl, trivial⟩, ⟨?_, trivial⟩, by decide, rfl, rfl, rfl⟩, h, by dsimp only; omega⟩
    refine congrArg (fun x => some (Obj.arr (.int .i64) x true)) ?_
    have h1 : (dualF m).take (i + 1) = (dualF m).take i ++ [rd m (mate i)] := by rw [List.take_add_one, dualF_get m h]; rfl
    rw [h1, ← hx]
    simp [hdl, hi, List.take_take]
  · refine stp ?_; try with_reducible exact True.intro
    obtain rfl : i = m.length := Nat.le_antisymm hi h
    exact ⟨.frz [], [0], ⟨rfl, trivial⟩, ⟨by simp [Obj.ren, frzI, ← dualF_length m], trivial⟩, by decide, rfl, rfl, rfl⟩
/-- A walk along a permutation over numbers that were not seen. -/
def innF (m : List Int) : Nat → List Bool → Int → List Int → List Bool × List Int
  | 0, s, _, own => (s, own)
  | k + 1, s, e, own => if s.getD e.toNat false = true then (s, own) else innF m k (s.set e.toNat true) (rd m e) (own ++ [e])
def cycF (m : List Int) : Nat → Nat → List Bool → List (List Int) → List (List Int)
  | 0, _, _, out => out
  | k + 1, d, s, out => if s.getD d false = true then cycF m k (d + 1) s out else cycF m k (d + 1) (innF m m.length s d []).1 (out ++ [(innF m m.length s d []).2])
def cyc (m : List Int) : List (List Int) := cycF m m.length 0 (List.replicate m.length false) []
def unseen (s : List Bool) : Nat := s.countP (!·)
theorem unseen_set : ∀ (s : List Bool) (i : Nat), i < s.length → s.getD i false = false → unseen (s.set i true) + 1 = unseen s
  | [], i, h, _ => by simp at h
  | b :: s, 0, _, h => by
    simp at h
    subst h
    simp [unseen]
  | b :: s, i + 1, h, h1 => by
    have := unseen_set s i (by simpa using h) (by simpa using h1)
    simp only [unseen, List.set_cons_succ, List.countP_cons] at this ⊢
    omega
theorem innF_out {m : List Int} : ∀ (k : Nat) (s : List Bool) (e : Int) (own : List Int), s.getD e.toNat false = true → innF m k s e own = (s, own)
  | 0, s, e, own, _ => rfl
  | k + 1, s, e, own, h => by unfold innF; rw [if_pos h]
theorem innF_length {m : List Int} : ∀ (k : Nat) (s : List Bool) (e : Int) (own : List Int), (innF m k s e own).1.length = s.length
  | 0, s, e, own => rfl
  | k + 1, s, e, own => by
    unfold innF
    split
    · rfl
    · rw [innF_length k]; simp
theorem unseen_le (s : List Bool) : unseen s ≤ s.length := List.countP_le_length
/-- Each entry is a place of the list. -/
def InR' (m : List Int) : Prop := ∀ i : Nat, i < m.length → 0 ≤ rd m i ∧ rd m i < m.length
theorem l6Cycles (m : List Int) (h24 : m.length ≤ 24) (hin : InR' m) : ConT Tryd.prog 116 [.il m] (.own 0 0 (cyc m).length) [.arr (.list (.int .i64)) (cyc m) true] := by
  refine conT_of hmix hTab Tryd.func116 rfl rfl (by kernel_rfl) (by show 1 ≤ Tryd.f116.ntmps; decide) ?_
  refine stp ?_; try with_reducible exact True.intro
  refine Or.inl ?_
  refine stp ?_; try with_reducible exact True.intro
  refine ⟨Nat × List Bool × List (List Int), fun a => a.1 ≤ m.length ∧ a.2.1.length = m.length ∧ a.2.2.length ≤ a.1 ∧ cycF m (m.length - a.1) a.1 a.2.1 a.2.2 = cyc m, fun a => m.length - a.1, fun a => [(0, .il m), (3, .own 0 0 a.2.2.length), (4, .own 1 0 m.length), (5, .i a.1)], fun a => [.arr (.list (.int .i64)) a.2.2 true, .arr .bool a.2.1 true], ⟨(0, List.replicate m.length false, []), ⟨.frz [], [0, 1], ⟨rfl, rfl, rfl, rfl, trivial⟩, ⟨rfl, rfl, trivial⟩, by decide, rfl, rfl, rfl⟩, by simp [cyc]⟩, fun ⟨i, s, out⟩ ⟨hi, hs, hout, hc⟩ => ?_⟩
  dsimp only at hi hs hout hc
  refine stp ?_; try with_reducible exact True.intro
  refine Br.mk (fun h => ?_) (fun h => ?_) <;> simp [-Int.ofNat_toNat] at h
  · refine stp ?_; try with_reducible exact True.intro
    have e1 : m.length - i = (m.length - (i + 1)) + 1 := by omega
    rw [e1, cycF] at hc
    refine Br.mk (fun h1 => ?_) (fun h1 => ?_) <;> simp [-Int.ofNat_toNat] at h1
    · rw [if_pos (by simpa using h1)] at hc
      refine stp ?_; try with_reducible exact True.intro
      exact ⟨(i + 1, s, out), ⟨.frz [], [0, 1], ⟨rfl, rfl, rfl, rfl, trivial⟩, ⟨rfl, rfl, trivial⟩, by decide, rfl, rfl, rfl⟩, ⟨h, hs, Nat.le_succ_of_le hout, hc⟩, by dsimp only; omega⟩
    · rw [if_neg (by simpa using h1)] at hc
      refine stp ?_; try with_reducible exact True.intro
      have hi0 : unseen s ≤ m.length := by have := unseen_le s; omega
      refine ⟨Nat × List Bool × Int × List Int, fun a => unseen a.2.1 ≤ a.1 ∧ a.2.1.length = m.length ∧ (0 ≤ a.2.2.1 ∧ a.2.2.1 < m.length) ∧ a.2.2.2.length + a.1 ≤ m.length ∧ innF m a.1 a.2.1 a.2.2.1 a.2.2.2 = innF m m.length s i [], fun a => a.1, fun a => [(0, .il m), (3, .own 0 0 out.length), (4, .own 1 0 m.length), (5, .i i), (6, .own 2 0 a.2.2.2.length), (7, .i a.2.2.1)], fun a => [.arr (.list (.int .i64)) out true, .arr .bool a.2.1 true, .arr (.int .i64) a.2.2.2 true], ⟨(m.length, s, i, []), ⟨.frz [], [0, 1, 2], ⟨rfl, rfl, rfl, rfl, rfl, rfl, trivial⟩, ⟨rfl, rfl, rfl, trivial⟩, by decide, rfl, rfl, rfl⟩, hi0, hs, by simpa using h, by simp, rfl⟩, fun ⟨k, s2, e, own⟩ ⟨g1, g2, g3, g4, g5⟩ => ?_⟩
      dsimp only at g1 g2 g3 g4 g5
      refine stp ?_; try with_reducible exact True.intro
      refine Br.mk (fun h2 => ?_) (fun h2 => ?_) <;> simp [-Int.ofNat_toNat] at h2
      · have hu := unseen_set s2 e.toNat (by omega) (by simpa using h2)
        have hk : k = (k - 1) + 1 := by omega
        have hr := hin e.toNat (by omega)
        have he : ((e.toNat : Nat) : Int) = e := by omega
        rw [he] at hr
        rw [hk, innF, if_neg (by simpa using h2)] at g5
        refine stp ?_; try with_reducible exact True.intro
        refine ⟨(k - 1, s2.set e.toNat true, rd m e, own ++ [e]), ⟨.frz [], [0, 1, 4], ⟨rfl, rfl, rfl, rfl, ?_, rfl, trivial⟩, ⟨rfl, by simp [Obj.ren, frzI, -Int.ofNat_toNat], by simp [Obj.ren, frzI, -Int.ofNat_toNat], trivial⟩, by decide, rfl, rfl, rfl⟩, ⟨?_, by simpa using g2, hr, ?_, g5⟩, ?_⟩
        · show V.own 4 0 _ = V.own 4 0 _
          simp
        · dsimp only; omega
        · simp; omega
        · dsimp only; omega
      · have g6 := innF_out (m := m) k s2 e own (by simpa using h2)
        rw [g6] at g5
        rw [← g5] at hc
        refine stp ?_; try with_reducible exact True.intro
        refine Or.inl ⟨_, rfl, rfl, rfl, ?_⟩
        refine stp ?_; try with_reducible exact True.intro
        refine Or.inl ⟨_, _, rfl, rfl, by decide, rfl, rfl, rfl, rfl, by simp; omega, ?_⟩
        refine stp ?_; try with_reducible exact True.intro
        refine ⟨(i + 1, s2, out ++ [own]), ⟨.frz [], [4, 1], ⟨rfl, ?_, rfl, rfl, trivial⟩, ⟨by simp [Obj.ren, frzI, -Int.ofNat_toNat], by simp [Obj.ren, frzI, -Int.ofNat_toNat], trivial⟩, by decide, rfl, rfl, rfl⟩, ⟨h, g2, by simp; omega, hc⟩, by dsimp only; omega⟩
        show V.own 4 0 _ = V.own 4 0 _
        simp
  · refine stp ?_; try with_reducible exact True.intro
    obtain rfl : i = m.length := Nat.le_antisymm hi h
    simp [cycF] at hc
    subst hc
    exact ⟨.frz [], [0], ⟨rfl, trivial⟩, ⟨rfl, trivial⟩, by decide, rfl, rfl, rfl⟩
end Go.Proofs.YtffiddkignmobaaDoorTv
end
section
open Go Go.Proofs.YtffiddkignmobaaDoorVe Go.Proofs.YtffiddkignmobaaDoorTv Go.Proofs
namespace Go.Proofs.YtffiddkignmobaaDoorTv
set_option maxRecDepth 8000
set_option maxHeartbeats 2000000
theorem cycles (m : List Int) (h24 : m.length ≤ 24) (hin : InR' m) : ConT Tryd.prog 122 [.il m] (.own 0 0 (cyc m).length) [.arr (.list (.int .i64)) (cyc m) true] := by
  refine conT_of hmix hTab Tryd.func122 rfl rfl (by kernel_rfl) (by show 1 ≤ Tryd.f122.ntmps; decide) ?_
  refine stp ?_; try with_reducible exact True.intro
  refine Or.inl ?_
  refine stp ?_; try with_reducible exact True.intro
  refine ⟨Nat × List Bool × List (List Int), fun a => a.1 ≤ m.length ∧ a.2.1.length = m.length ∧ a.2.2.length ≤ a.1 ∧ cycF m (m.length - a.1) a.1 a.2.1 a.2.2 = cyc m, fun a => m.length - a.1, fun a => [(0, .il m), (3, .own 0 0 a.2.2.length), (4, .own 1 0 m.length), (13, .i m.length), (14, .i a.1)], fun a => [.arr (.list (.int .i64)) a.2.2 true, .arr .bool a.2.1 true], ⟨(0, List.replicate m.length false, []), ⟨.frz [], [0, 1], ⟨rfl, rfl, rfl, rfl, rfl, trivial⟩, ⟨rfl, rfl, trivial⟩, by decide, rfl, rfl, rfl⟩, by simp [cyc]⟩, fun ⟨i, s, out⟩ ⟨hi, hs, hout, hc⟩ => ?_⟩
  dsimp only at hi hs hout hc
  refine stp ?_; try with_reducible exact True.intro
  refine Br.mk (fun h => ?_) (fun h => ?_) <;> simp [-Int.ofNat_toNat] at h
  · refine stp ?_; try with_reducible exact True.intro
    have e1 : m.length - i = (m.length - (i + 1)) + 1 := by omega
    rw [e1, cycF] at hc
    refine Br.mk (fun h1 => ?_) (fun h1 => ?_) <;> simp [-Int.ofNat_toNat] at h1
    · rw [if_pos (by simpa using h1)] at hc
      refine stp ?_; try with_reducible exact True.intro
      exact ⟨(i + 1, s, out), ⟨.frz [], [0, 1], ⟨rfl, rfl, rfl, rfl, rfl, trivial⟩, ⟨rfl, rfl, trivial⟩, by decide, rfl, rfl, rfl⟩, ⟨h, hs, Nat.le_succ_of_le hout, hc⟩, by dsimp only; omega⟩
    · rw [if_neg (by simpa using h1)] at hc
      refine stp ?_; try with_reducible exact True.intro
      have hi0 : unseen s ≤ m.length := by have := unseen_le s; omega
      refine ⟨Nat × List Bool × Int × List Int, fun a => unseen a.2.1 ≤ a.1 ∧ a.2.1.length = m.length ∧ (0 ≤ a.2.2.1 ∧ a.2.2.1 < m.length) ∧ a.2.2.2.length + a.1 ≤ m.length ∧ innF m a.1 a.2.1 a.2.2.1 a.2.2.2 = innF m m.length s i [], fun a => a.1, fun a => [(0, .il m), (3, .own 0 0 out.length), (4, .own 1 0 m.length), (13, .i m.length), (14, .i i), (6, .own 2 0 a.2.2.2.length), (7, .i a.2.2.1)], fun a => [.arr (.list (.int .i64)) out true, .arr .bool a.2.1 true, .arr (.int .i64) a.2.2.2 true], ⟨(m.length, s, i, []), ⟨.frz [], [0, 1, 2], ⟨rfl, rfl, rfl, rfl, rfl, rfl, rfl, trivial⟩, ⟨rfl, rfl, rfl, trivial⟩, by decide, rfl, rfl, rfl⟩, hi0, hs, by simpa using h, by simp, rfl⟩, fun ⟨k, s2, e, own⟩ ⟨g1, g2, g3, g4, g5⟩ => ?_⟩
      dsimp only at g1 g2 g3 g4 g5
      refine stp ?_; try with_reducible exact True.intro
      refine Br.mk (fun h2 => ?_) (fun h2 => ?_) <;> simp [-Int.ofNat_toNat] at h2
      · have hu := unseen_set s2 e.toNat (by omega) (by simpa using h2)
        have hk : k = (k - 1) + 1 := by omega
        have hr := hin e.toNat (by omega)
        have he : ((e.toNat : Nat) : Int) = e := by omega
        rw [he] at hr
        rw [hk, innF, if_neg (by simpa using h2)] at g5
        refine stp ?_; try with_reducible exact True.intro
        refine ⟨(k - 1, s2.set e.toNat true, rd m e, own ++ [e]), ⟨.frz [], [0, 1, 4], ⟨rfl, rfl, rfl, rfl, rfl, ?_, rfl, trivial⟩, ⟨rfl, by simp [Obj.ren, frzI, -Int.ofNat_toNat], by simp [Obj.ren, frzI, -Int.ofNat_toNat], trivial⟩, by decide, rfl, rfl, rfl⟩, ⟨?_, by simpa using g2, hr, ?_, g5⟩, ?_⟩
        · show V.own 4 0 _ = V.own 4 0 _
          simp
        · dsimp only; omega
        · simp; omega
        · dsimp only; omega
      · have g6 := innF_out (m := m) k s2 e own (by simpa using h2)
        rw [g6] at g5
        rw [← g5] at hc
        refine stp ?_; try with_reducible exact True.intro
        refine Or.inl ⟨_, rfl, rfl, rfl, ?_⟩
        refine stp ?_; try with_reducible exact True.intro
        refine Or.inl ⟨_, _, rfl, rfl, by decide, rfl, rfl, rfl, rfl, by simp; omega, ?_⟩
        refine stp ?_; try with_reducible exact True.intro
        refine ⟨(i + 1, s2, out ++ [own]), ⟨.frz [], [4, 1], ⟨rfl, ?_, rfl, rfl, rfl, trivial⟩, ⟨by simp [Obj.ren, frzI, -Int.ofNat_toNat], by simp [Obj.ren, frzI, -Int.ofNat_toNat], trivial⟩, by decide, rfl, rfl, rfl⟩, ⟨h, g2, by simp; omega, hc⟩, by dsimp only; omega⟩
        show V.own 4 0 _ = V.own 4 0 _
        simp
  · refine stp ?_; try with_reducible exact True.intro
    obtain rfl : i = m.length := Nat.le_antisymm hi h
    simp [cycF] at hc
    subst hc
    exact ⟨.frz [], [0], ⟨rfl, trivial⟩, ⟨rfl, trivial⟩, by decide, rfl, rfl, rfl⟩
/-- Cycles hold places of the list only, and are no more than its places. -/
theorem innF_in {m : List Int} (hin : InR' m) : ∀ (k : Nat) (s : List Bool) (e : Int) (own : List Int), 0 ≤ e ∧ e < m.length → (∀ x ∈ own, 0 ≤ x ∧ x < m.length) → ∀ x ∈ (innF m k s e own).2, 0 ≤ x ∧ x < m.length
  | 0, s, e, own, _, ho => ho
  | k + 1, s, e, own, he, ho => by
    unfold innF
    split
    · exact ho
    · refine innF_in hin k _ _ _ ?_ fun x hx => ?_
      · have := hin e.toNat (by omega)
        rwa [show ((e.toNat : Nat) : Int) = e by omega] at this
      · rcases List.mem_append.1 hx with h | h
        · exact ho x h
        · simp at h; subst h; exact he
theorem cycF_in {m : List Int} (hin : InR' m) : ∀ (k d : Nat) (s : List Bool) (out : List (List Int)), d + k ≤ m.length → (∀ r ∈ out, ∀ x ∈ r, 0 ≤ x ∧ x < (m.length : Int)) → ∀ r ∈ cycF m k d s out, ∀ x ∈ r, 0 ≤ x ∧ x < (m.length : Int)
  | 0, d, s, out, _, ho => ho
  | k + 1, d, s, out, hd, ho => by
    unfold cycF
    split
    · exact cycF_in hin k _ _ _ (by omega) ho
    · refine cycF_in hin k _ _ _ (by omega) fun r hr => ?_
      rcases List.mem_append.1 hr with h | h
      · exact ho r h
      · simp at h; subst h
        exact innF_in hin _ _ _ _ (by omega) (by simp)
theorem cyc_in {m : List Int} (hin : InR' m) : ∀ r ∈ cyc m, ∀ x ∈ r, 0 ≤ x ∧ x < (m.length : Int) := cycF_in hin _ _ _ _ (by omega) (by simp)
theorem cycF_length {m : List Int} : ∀ (k d : Nat) (s : List Bool) (out : List (List Int)), (cycF m k d s out).length ≤ out.length + k
  | 0, d, s, out => Nat.le_refl _
  | k + 1, d, s, out => by
    unfold cycF
    split
    · have := cycF_length (m := m) k (d + 1) s out; omega
    · have := cycF_length (m := m) k (d + 1) (innF m m.length s d []).1 (out ++ [(innF m m.length s d []).2])
      simp at this; omega
theorem cyc_length (m : List Int) : (cyc m).length ≤ m.length := by
  have := cycF_length (m := m) m.length 0 (List.replicate m.length false) []
  simpa [cyc] using this
theorem innF_len {m : List Int} : ∀ (k : Nat) (s : List Bool) (e : Int) (own : List Int), (innF m k s e own).2.length ≤ own.length + k
  | 0, s, e, own => Nat.le_refl _
  | k + 1, s, e, own => by
    unfold innF
    split
    · dsimp only; omega
    · have := innF_len (m := m) k (s.set e.toNat true) (rd m e) (own ++ [e]); simp at this; omega
theorem cycF_len {m : List Int} : ∀ (k d : Nat) (s : List Bool) (out : List (List Int)), (∀ r ∈ out, r.length ≤ m.length) → ∀ r ∈ cycF m k d s out, r.length ≤ m.length
  | 0, d, s, out, ho => ho
  | k + 1, d, s, out, ho => by
    unfold cycF
    split
    · exact cycF_len k _ _ _ ho
    · refine cycF_len k _ _ _ fun r hr => ?_
      rcases List.mem_append.1 hr with h | h
      · exact ho r h
      · simp at h; subst h
        have := innF_len (m := m) m.length s d []
        simpa using this
theorem cyc_len (m : List Int) : ∀ r ∈ cyc m, r.length ≤ m.length := cycF_len _ _ _ _ (by simp)
/-- What isPerm tells. -/
theorem isMap_facts {m : List Int} (h : isMap m = true) : m.length ≤ 24 ∧ 2 ≤ m.length ∧ m.length % 2 = 0 ∧ InR' m := by
  simp only [isMap, Bool.and_eq_true, decide_eq_true_eq] at h
  obtain ⟨⟨h1, h2⟩, h3, h4⟩ := h
  refine ⟨by omega, by omega, ?_, fun i hi => permF_in h4 i hi⟩
  have := Int.tmod_eq_emod_of_nonneg (a := (m.length : Int)) (b := 2) (by omega)
  omega
theorem dualF_in {m : List Int} (hin : InR' m) (he : m.length % 2 = 0) : InR' (dualF m) := fun i hi => by
  rw [dualF_length] at hi
  have h1 := mate_in he hi
  have h2 := hin (mate i).toNat (by omega)
  rw [show (((mate i).toNat : Nat) : Int) = mate i by omega] at h2
  rw [show rd (dualF m) i = rd m (mate i) by
    have := dualF_get m hi
    simp [rd, List.getD_eq_getElem?_getD, this]]
  rw [dualF_length]; exact h2
end Go.Proofs.YtffiddkignmobaaDoorTv
end
section
open Go Go.Proofs.YtffiddkignmobaaDoorVe Go.Proofs.YtffiddkignmobaaDoorTv Go.Proofs
namespace Go.Proofs.YtffiddkignmobaaDoorTv
set_option maxRecDepth 8000
set_option maxHeartbeats 2000000
theorem drop_consF {l : List (List Int)} {i : Nat} (h : i < l.length) : l.drop i = rdR l i :: l.drop (i + 1) := by
  rw [List.drop_eq_getElem_cons h]
  simp [rdR, h]
theorem FacesOf (m : List Int) (hm : (m.length : Int) ≤ 1048576) : ConT Tryd.prog 44 [.il m] (.own 0 0 (if isMap m = true then cyc (dualF m) else []).length) [.arr (.list (.int .i64)) (if isMap m = true then cyc (dualF m) else []) true] := by
  refine conT_of hmix hTab Tryd.func44 rfl rfl (by kernel_rfl) (by show 1 ≤ Tryd.f44.ntmps; decide) ?_
  refine stp ?_; try with_reducible exact True.intro
  refine .inl ⟨_, _, _, (IsMapS m hm).toT, ⟨⟨_, rfl, rfl⟩, trivial⟩, ?_⟩
  refine stp ?_; try with_reducible exact True.intro
  refine Br.mk (fun h => ?_) (fun h => ?_) <;> simp [-Int.ofNat_toNat] at h
  · rw [if_neg (by simpa using h)]
    refine stp ?_; try with_reducible exact True.intro
    refine Or.inl ?_
    refine stp ?_; try with_reducible exact True.intro
    exact ⟨.frz [], [0], ⟨rfl, trivial⟩, ⟨rfl, trivial⟩, by decide, rfl, rfl, rfl⟩
  · obtain ⟨h1, h2, h3, h4⟩ := isMap_facts h
    rw [if_pos h]
    refine stp ?_; try with_reducible exact True.intro
    refine .inl ⟨_, _, _, l6Dual m h1 h3, ⟨⟨_, rfl, rfl⟩, trivial⟩, ?_⟩
    refine stp ?_; try with_reducible exact True.intro
    refine .inl ⟨_, _, _, l6Cycles (dualF m) (by rw [dualF_length]; exact h1) (dualF_in h4 h3), ⟨⟨_, _, rfl, by simp [dualF_length], by simp [dualF, List.take_of_length_le]⟩, trivial⟩, ?_⟩
    refine stp ?_; try with_reducible exact True.intro
    exact ⟨.frz [], [1], ⟨rfl, trivial⟩, ⟨rfl, trivial⟩, by decide, rfl, rfl, rfl⟩
/-- Faces: each dart's number of a cycle. -/
def setAll (k : Int) : List Int → List Int → List Int
  | [], out => out
  | e :: r, out => setAll k r (out.set e.toNat k)
def fillF : Int → List (List Int) → List Int → List Int
  | _, [], out => out
  | k, r :: rs, out => fillF (k + 1) rs (setAll k r out)
theorem setAll_length (k : Int) : ∀ (r out : List Int), (setAll k r out).length = out.length
  | [], out => rfl
  | e :: r, out => by rw [setAll, setAll_length k r]; simp
theorem fillF_length : ∀ (k : Int) (rs : List (List Int)) (out : List Int), (fillF k rs out).length = out.length
  | _, [], out => rfl
  | k, r :: rs, out => by rw [fillF, fillF_length _ rs, setAll_length]
def faces (m : List Int) : List Int := fillF 0 (cyc (dualF m)) (List.replicate m.length 0)
@[simp] theorem faces_length (m : List Int) : (faces m).length = m.length := by simp [faces, fillF_length]
theorem l22Faces (m : List Int) (h24 : m.length ≤ 24) (he : m.length % 2 = 0) (hin : InR' m) : ConT Tryd.prog 213 [.il m] (.own 0 0 m.length) [.arr (.int .i64) (faces m) true] := by
  refine conT_of hmix hTab Tryd.func213 rfl rfl (by kernel_rfl) (by show 1 ≤ Tryd.f213.ntmps; decide) ?_
  refine stp ?_; try with_reducible exact True.intro
  refine .inl ⟨_, _, _, l6Dual m h24 he, ⟨⟨_, rfl, rfl⟩, trivial⟩, ?_⟩
  refine stp ?_; try with_reducible exact True.intro
  refine .inl ⟨_, _, _, l6Cycles (dualF m) (by rw [dualF_length]; exact h24) (dualF_in hin he), ⟨⟨_, _, rfl, by simp [dualF_length], by simp [dualF, List.take_of_length_le]⟩, trivial⟩, ?_⟩
  refine stp ?_; try with_reducible exact True.intro
  have hcl : (cyc (dualF m)).length ≤ 24 := by have := cyc_length (dualF m); rw [dualF_length] at this; omega
  have hci := cyc_in (dualF_in hin he)
  have hcn := cyc_len (dualF m)
  rw [dualF_length] at hci hcn
  refine ⟨Nat × List Int, fun a => a.1 ≤ (cyc (dualF m)).length ∧ a.2.length = m.length ∧ fillF a.1 ((cyc (dualF m)).drop a.1) a.2 = faces m, fun a => (cyc (dualF m)).length - a.1, fun a => [(0, .il m), (3, .own 0 0 m.length), (4, .own 1 0 (cyc (dualF m)).length), (5, .i a.1)], fun a => [.arr (.int .i64) a.2 true, .frz (.list (.int .i64)) (cyc (dualF m))], ⟨(0, List.replicate m.length 0), ⟨.frz [2], [0, 2], ⟨rfl, rfl, rfl, rfl, trivial⟩, ⟨rfl, rfl, trivial⟩, by decide, rfl, rfl, rfl⟩, by simp [faces]⟩, fun ⟨k, out⟩ ⟨hk, ho, hf⟩ => ?_⟩
  dsimp only at hk ho hf
  refine stp ?_; try with_reducible exact True.intro
  refine Br.mk (fun h => ?_) (fun h => ?_) <;> simp [-Int.ofNat_toNat] at h
  · refine stp ?_; try with_reducible exact True.intro
    rw [drop_consF h, fillF] at hf
    generalize hr : rdR (cyc (dualF m)) k = row at hf
    have hmem : row ∈ cyc (dualF m) := by rw [← hr]; simp [rdR, h]
    have hr2 : rdT (.list (.int .i64)) (cyc (dualF m)) ((k : Int).toNat : Nat) = row := by rw [← hr]; simp [rdR]
    have hci := hci row hmem
    have hcn := hcn row hmem
    refine ⟨Nat × List Int, fun a => a.1 ≤ row.length ∧ a.2.length = m.length ∧ setAll k (row.drop a.1) a.2 = setAll k row out, fun a => row.length - a.1, fun a => [(0, .il m), (3, .own 0 0 m.length), (4, .own 1 0 (cyc (dualF m)).length), (5, .i k), (6, .i a.1)], fun a => [.arr (.int .i64) a.2 true, .frz (.list (.int .i64)) (cyc (dualF m))], ⟨(0, out), ⟨.frz [], [0, 1], ⟨rfl, rfl, rfl, rfl, rfl, trivial⟩, ⟨rfl, rfl, trivial⟩, by decide, rfl, rfl, rfl⟩, by simp [ho]⟩, fun ⟨j, out2⟩ ⟨hj, ho2, hf2⟩ => ?_⟩
    dsimp only at hj ho2 hf2
    refine stp ?_; try with_reducible exact True.intro
    simp only [hr2]
    refine Br.mk (fun h1 => ?_) (fun h1 => ?_) <;> simp [-Int.ofNat_toNat] at h1
    · rw [drop_cons h1, setAll] at hf2
      have hx := hci (rd row j) (by simp [rd, h1])
      refine stp ?_; try with_reducible exact True.intro
      simp only [hr2]
      refine stp ?_; try with_reducible exact True.intro
      exact ⟨(j + 1, out2.set (rd row j).toNat k), ⟨.frz [], [0, 1], ⟨rfl, rfl, rfl, rfl, rfl, trivial⟩, ⟨by simp [Obj.ren, frzI, -Int.ofNat_toNat], rfl, trivial⟩, by decide, rfl, rfl, rfl⟩, ⟨h1, by simpa using ho2, hf2⟩, by dsimp only; omega⟩
    · refine stp ?_; try with_reducible exact True.intro
      obtain rfl : j = row.length := Nat.le_antisymm hj h1
      simp [setAll] at hf2
      rw [← hf2] at hf
      exact ⟨(k + 1, out2), ⟨.frz [], [0, 1], ⟨rfl, rfl, rfl, rfl, trivial⟩, ⟨rfl, rfl, trivial⟩, by decide, rfl, rfl, rfl⟩, ⟨h, ho2, by simpa using hf⟩, by dsimp only; omega⟩
  · refine stp ?_; try with_reducible exact True.intro
    obtain rfl : k = (cyc (dualF m)).length := Nat.le_antisymm hk h
    simp [fillF] at hf
    rw [← hf]
    exact ⟨.frz [], [0], ⟨rfl, trivial⟩, ⟨by simp [Obj.ren, frzI], trivial⟩, by decide, rfl, rfl, rfl⟩
end Go.Proofs.YtffiddkignmobaaDoorTv
end
section
open Go Go.Proofs.YtffiddkignmobaaDoorVe Go.Proofs.YtffiddkignmobaaDoorTv Go.Proofs
namespace Go.Proofs.YtffiddkignmobaaDoorTv
set_option maxRecDepth 8000
set_option maxHeartbeats 2000000
theorem faceOf (m : List Int) (h24 : m.length ≤ 24) (he : m.length % 2 = 0) (hin : InR' m) : ConT Tryd.prog 214 [.il m] (.tup [.own 0 0 m.length, .i (cyc (dualF m)).length]) [.arr (.int .i64) (faces m) true] := by
  refine conT_of hmix hTab Tryd.func214 rfl rfl (by kernel_rfl) (by show 1 ≤ Tryd.f214.ntmps; decide) ?_
  refine stp ?_; try with_reducible exact True.intro
  refine .inl ⟨_, _, _, dual m h24 he, ⟨⟨_, rfl, rfl⟩, trivial⟩, ?_⟩
  refine stp ?_; try with_reducible exact True.intro
  refine .inl ⟨_, _, _, cycles (dualF m) (by rw [dualF_length]; exact h24) (dualF_in hin he), ⟨⟨_, _, rfl, by simp [dualF_length], by simp [dualF, List.take_of_length_le]⟩, trivial⟩, ?_⟩
  refine stp ?_; try with_reducible exact True.intro
  have hcl : (cyc (dualF m)).length ≤ 24 := by have := cyc_length (dualF m); rw [dualF_length] at this; omega
  have hci := cyc_in (dualF_in hin he)
  have hcn := cyc_len (dualF m)
  rw [dualF_length] at hci hcn
  refine ⟨Nat × List Int, fun a => a.1 ≤ (cyc (dualF m)).length ∧ a.2.length = m.length ∧ fillF a.1 ((cyc (dualF m)).drop a.1) a.2 = faces m, fun a => (cyc (dualF m)).length - a.1, fun a => [(0, .il m), (5, .own 0 0 m.length), (4, .own 1 0 (cyc (dualF m)).length), (16, .own 1 0 (cyc (dualF m)).length), (17, .i (cyc (dualF m)).length), (18, .i a.1)], fun a => [.arr (.int .i64) a.2 true, .frz (.list (.int .i64)) (cyc (dualF m))], ⟨(0, List.replicate m.length 0), ⟨.frz [1], [2, 1], ⟨rfl, rfl, rfl, rfl, rfl, rfl, trivial⟩, ⟨rfl, rfl, trivial⟩, by decide, rfl, rfl, rfl⟩, by simp [faces]⟩, fun ⟨k, out⟩ ⟨hk, ho, hf⟩ => ?_⟩
  dsimp only at hk ho hf
  refine stp ?_; try with_reducible exact True.intro
  refine Br.mk (fun h => ?_) (fun h => ?_) <;> simp [-Int.ofNat_toNat] at h
  · refine stp ?_; try with_reducible exact True.intro
    rw [drop_consF h, fillF] at hf
    generalize hr : rdR (cyc (dualF m)) k = row at hf
    have hmem : row ∈ cyc (dualF m) := by rw [← hr]; simp [rdR, h]
    have hr2 : rdT (.list (.int .i64)) (cyc (dualF m)) ((k : Int).toNat : Nat) = row := by rw [← hr]; simp [rdR]
    have hci := hci row hmem
    have hcn := hcn row hmem
    simp only [hr2]
    refine ⟨Nat × List Int, fun a => a.1 ≤ row.length ∧ a.2.length = m.length ∧ setAll k (row.drop a.1) a.2 = setAll k row out, fun a => row.length - a.1, fun a => [(0, .il m), (5, .own 0 0 m.length), (4, .own 1 0 (cyc (dualF m)).length), (16, .own 1 0 (cyc (dualF m)).length), (17, .i (cyc (dualF m)).length), (18, .i k), (6, .i k), (23, .il row), (24, .i row.length), (25, .i a.1)], fun a => [.arr (.int .i64) a.2 true, .frz (.list (.int .i64)) (cyc (dualF m))], ⟨(0, out), ⟨.frz [], [0, 1], ⟨rfl, rfl, rfl, rfl, rfl, rfl, rfl, rfl, rfl, rfl, trivial⟩, ⟨rfl, rfl, trivial⟩, by decide, rfl, rfl, rfl⟩, by simp [ho]⟩, fun ⟨j, out2⟩ ⟨hj, ho2, hf2⟩ => ?_⟩
    dsimp only at hj ho2 hf2
    refine stp ?_; try with_reducible exact True.intro
    refine Br.mk (fun h1 => ?_) (fun h1 => ?_) <;> simp [-Int.ofNat_toNat] at h1
    · rw [drop_cons h1, setAll] at hf2
      have hx := hci (rd row j) (by simp [rd, h1])
      refine stp ?_; try with_reducible exact True.intro
      exact ⟨(j + 1, out2.set (rd row j).toNat k), ⟨.frz [], [0, 1], ⟨rfl, rfl, rfl, rfl, rfl, rfl, rfl, rfl, rfl, rfl, trivial⟩, ⟨by simp [Obj.ren, frzI, -Int.ofNat_toNat], rfl, trivial⟩, by decide, rfl, rfl, rfl⟩, ⟨h1, by simpa using ho2, hf2⟩, by dsimp only; omega⟩
    · refine stp ?_; try with_reducible exact True.intro
      obtain rfl : j = row.length := Nat.le_antisymm hj h1
      simp [setAll] at hf2
      rw [← hf2] at hf
      exact ⟨(k + 1, out2), ⟨.frz [], [0, 1], ⟨rfl, rfl, rfl, rfl, rfl, rfl, trivial⟩, ⟨rfl, rfl, trivial⟩, by decide, rfl, rfl, rfl⟩, ⟨h, ho2, by simpa using hf⟩, by dsimp only; omega⟩
  · refine stp ?_; try with_reducible exact True.intro
    obtain rfl : k = (cyc (dualF m)).length := Nat.le_antisymm hk h
    simp [fillF] at hf
    rw [← hf]
    exact ⟨.frz [], [0], ⟨rfl, trivial⟩, ⟨by simp [Obj.ren, frzI], trivial⟩, by decide, rfl, rfl, rfl⟩
/-- The colours of two faces beside one edge. -/
def badC (c : List Int) (a b : Int) : Bool := decide (a = b) || (decide (a < c.length) && (decide (b < c.length) && decide (rd c a = rd c b)))
def fine (f c : List Int) : Bool := (List.range f.length).all fun p => decide (p % 2 = 1) || !badC c (rd f p) (rd f ((p : Int) + 1))
theorem fine_iff {f c : List Int} : fine f c = true ↔ ∀ p : Nat, p < f.length → p % 2 = 0 → badC c (rd f p) (rd f ((p : Int) + 1)) = false := by
  simp only [fine, List.all_eq_true, List.mem_range, Bool.or_eq_true, decide_eq_true_eq, Bool.not_eq_true']
  refine ⟨fun h p h1 h2 => ?_, fun h p h1 => ?_⟩
  · rcases h p h1 with h3 | h3
    · omega
    · exact h3
  · by_cases h2 : p % 2 = 1
    · exact .inl h2
    · exact .inr (h p h1 (by omega))
theorem l22Fine (f c : List Int) (hf : f.length ≤ 24) (he : f.length % 2 = 0) (hpos : ∀ i : Nat, i < f.length → 0 ≤ rd f i) : ConS Tryd.prog 241 [.il f, .il c] (.b (fine f c)) := by
  refine conS_of hmix hTab Tryd.func241 rfl rfl (by kernel_rfl) (by show 2 ≤ Tryd.f241.ntmps; decide) rfl ?_
  refine stp ?_; try with_reducible exact True.intro
  refine ⟨Nat, fun i => i ≤ f.length ∧ i % 2 = 0 ∧ ∀ p : Nat, p < i → p % 2 = 0 → badC c (rd f p) (rd f ((p : Int) + 1)) = false, fun i => f.length - i, fun i => [(0, .il f), (1, .il c), (5, .i i)], fun i => [], ⟨0, ⟨.frz [], [], ⟨rfl, rfl, rfl, trivial⟩, trivial, by decide, rfl, rfl, rfl⟩, by simp⟩, fun i ⟨hi, h2i, hk⟩ => ?_⟩
  refine stp ?_; try with_reducible exact True.intro
  refine Br.mk (fun h => ?_) (fun h => ?_) <;> simp [-Int.ofNat_toNat] at h
  · refine stp ?_; try with_reducible exact True.intro
    have hp1 := hpos i (by omega)
    have hp2 := hpos (i + 1) (by omega)
    have e2 : ((i + 1 : Nat) : Int) = (i : Int) + 1 := by omega
    rw [e2] at hp2
    have hbad : badC c (rd f i) (rd f ((i : Int) + 1)) = true → fine f c = false := fun e => by
      refine Bool.eq_false_iff.2 fun e1 => ?_
      rw [fine_iff.1 e1 i (by omega) h2i] at e
      cases e
    have hgood : badC c (rd f i) (rd f ((i : Int) + 1)) = false → ∀ p : Nat, p < i + 2 → p % 2 = 0 → badC c (rd f p) (rd f ((p : Int) + 1)) = false := fun e p hp hp2 => by
      by_cases ej : p = i
      · rw [ej]; exact e
      · exact hk p (by omega) hp2
    have next : badC c (rd f i) (rd f ((i : Int) + 1)) = false → i + 2 ≤ f.length ∧ (i + 2) % 2 = 0 ∧ ∀ p : Nat, p < i + 2 → p % 2 = 0 → badC c (rd f p) (rd f ((p : Int) + 1)) = false := fun e => ⟨by omega, by omega, hgood e⟩
    refine Br.mk (fun h1 => ?_) (fun h1 => ?_) <;> simp [-Int.ofNat_toNat] at h1
    · refine stp ?_; try with_reducible exact True.intro
      simp [hbad (by simp [badC, h1])]
    · refine stp ?_; try with_reducible exact True.intro
      refine Br.mk (fun h2 => ?_) (fun h2 => ?_) <;> simp [-Int.ofNat_toNat] at h2
      · refine stp ?_; try with_reducible exact True.intro
        refine Br.mk (fun h3 => ?_) (fun h3 => ?_) <;> simp [-Int.ofNat_toNat] at h3
        · refine stp ?_; try with_reducible exact True.intro
          refine Br.mk (fun h4 => ?_) (fun h4 => ?_) <;> simp [-Int.ofNat_toNat] at h4
          · refine stp ?_; try with_reducible exact True.intro
            simp [hbad (by simp [badC, h2, h3, h4])]
          · refine stp ?_; try with_reducible exact True.intro
            exact ⟨i + 2, ⟨.frz [], [], ⟨rfl, rfl, rfl, trivial⟩, trivial, by decide, rfl, rfl, rfl⟩, next (by simp [badC, h1, h4]), by dsimp only; omega⟩
        · refine stp ?_; try with_reducible exact True.intro
          exact ⟨i + 2, ⟨.frz [], [], ⟨rfl, rfl, rfl, trivial⟩, trivial, by decide, rfl, rfl, rfl⟩, next (by simp [badC, h1, h2]; omega), by dsimp only; omega⟩
      · refine stp ?_; try with_reducible exact True.intro
        exact ⟨i + 2, ⟨.frz [], [], ⟨rfl, rfl, rfl, trivial⟩, trivial, by decide, rfl, rfl, rfl⟩, next (by simp [badC, h1]; omega), by dsimp only; omega⟩
  · refine stp ?_; try with_reducible exact True.intro
    have : fine f c = true := fine_iff.2 fun p hp h2p => hk p (by omega) h2p
    simp [this]
end Go.Proofs.YtffiddkignmobaaDoorTv
end
section
open Go Go.Proofs.YtffiddkignmobaaDoorVe Go.Proofs.YtffiddkignmobaaDoorTv Go.Proofs
namespace Go.Proofs.YtffiddkignmobaaDoorTv
set_option maxRecDepth 8000
set_option maxHeartbeats 2000000
/-- Each dart's face is a number below the count of faces. -/
def Lt (n : Int) (l : List Int) : Prop := ∀ x ∈ l, 0 ≤ x ∧ x < n
theorem setAll_lt {n k : Int} (hk : 0 ≤ k ∧ k < n) : ∀ (r out : List Int), Lt n out → Lt n (setAll k r out)
  | [], out, h => h
  | e :: r, out, h => setAll_lt hk r _ fun x hx => by
    rcases List.mem_or_eq_of_mem_set hx with h1 | h1
    · exact h x h1
    · rw [h1]; exact hk
theorem fillF_lt {n : Int} : ∀ (rs : List (List Int)) (k : Int) (out : List Int), 0 ≤ k → k + rs.length ≤ n → Lt n out → Lt n (fillF k rs out)
  | [], k, out, _, _, h => h
  | r :: rs, k, out, h0, hk, h => fillF_lt rs (k + 1) _ (by omega) (by simp at hk; omega) (setAll_lt (by simp at hk; omega) _ _ h)
theorem cycF_ge {m : List Int} : ∀ (k d : Nat) (s : List Bool) (out : List (List Int)), out.length ≤ (cycF m k d s out).length
  | 0, d, s, out => Nat.le_refl _
  | k + 1, d, s, out => by
    unfold cycF
    split
    · exact cycF_ge k _ _ _
    · refine Nat.le_trans ?_ (cycF_ge k _ _ _)
      simp
theorem cyc_pos {m : List Int} (h : 0 < m.length) : 0 < (cyc m).length := by
  unfold cyc
  generalize hk : m.length = k at *
  cases k with
  | zero => omega
  | succ k =>
    rw [cycF, if_neg (by simp [List.replicate_succ])]
    refine Nat.lt_of_lt_of_le ?_ (cycF_ge k _ _ _)
    simp
theorem faces_lt {m : List Int} (h : 0 < m.length) : Lt (cyc (dualF m)).length (faces m) := by
  refine fillF_lt _ _ _ (by omega) (by omega) fun x hx => ?_
  have := cyc_pos (m := dualF m) (by rw [dualF_length]; exact h)
  simp at hx
  omega
theorem faces_in {m : List Int} {i : Nat} (h : i < m.length) : 0 ≤ rd (faces m) i ∧ rd (faces m) i < (cyc (dualF m)).length := by
  refine faces_lt (by omega) _ ?_
  have := faces_length m
  simp [rd, this, h]
def isCol (m c : List Int) : Bool := isMap m && (decide (c.length = (cyc (dualF m)).length) && fine (faces m) c)
theorem fine_all {m c : List Int} (h2m : m.length % 2 = 0) (hc : c.length = (cyc (dualF m)).length) : fine (faces m) c = true ↔ ∀ i : Nat, i < m.length → rd c (rd (faces m) i) ≠ rd c (rd (faces m) (mate i)) := by
  rw [fine_iff, faces_length]
  have hbad : ∀ i : Nat, i < m.length → i % 2 = 0 → (badC c (rd (faces m) i) (rd (faces m) ((i : Int) + 1)) = false ↔ rd c (rd (faces m) i) ≠ rd c (rd (faces m) ((i : Int) + 1))) := fun i hi h2 => by
    have f1 := faces_in (m := m) hi
    have f2 := faces_in (m := m) (i := i + 1) (by omega)
    rw [show ((i + 1 : Nat) : Int) = (i : Int) + 1 by omega] at f2
    simp only [badC, Bool.or_eq_false_iff, decide_eq_false_iff_not, Bool.and_eq_false_iff, hc]
    refine ⟨fun ⟨_, e⟩ => ?_, fun e => ⟨fun e1 => e (by rw [e1]), .inr (.inr e)⟩⟩
    rcases e with e | e | e
    · omega
    · omega
    · exact e
  refine ⟨fun h i hi => ?_, fun h p hp h2p => ?_⟩
  · by_cases h2 : i % 2 = 0
    · have := (hbad i hi h2).1 (h i hi h2)
      rwa [mate, if_pos h2]
    · have h3 := (hbad (i - 1) (by omega) (by omega)).1 (h (i - 1) (by omega) (by omega))
      rw [mate, if_neg h2]
      have e1 : ((i - 1 : Nat) : Int) = (i : Int) - 1 := by omega
      rw [e1] at h3
      simp only [Int.sub_add_cancel] at h3
      exact h3.symm
  · refine (hbad p hp h2p).2 ?_
    have := h p hp
    rwa [mate, if_pos h2p] at this
end Go.Proofs.YtffiddkignmobaaDoorTv
end
section
open Go Go.Proofs.YtffiddkignmobaaDoorVe Go.Proofs.YtffiddkignmobaaDoorTv Go.Proofs
namespace Go.Proofs.YtffiddkignmobaaDoorTv
set_option maxRecDepth 8000
set_option maxHeartbeats 2000000
/-- The first that gives something. -/
def firstT (g : Nat → Option (List Int)) : Nat → Nat → Option (List Int)
  | 0, _ => none
  | j + 1, c => match g c with
    | some r => some r
    | none => firstT g j (c + 1)
def nextF (f : List Int) (k : Nat) : Nat → List Int → Option (List Int)
  | 0, cols => if fine f cols = true then some cols else none
  | r + 1, cols => if fine f cols = true then firstT (fun c => nextF f k r (cols ++ [(c : Int)])) k 0 else none
def resN : Option (List Int) → V
  | some r => .tup [.il r, .b true]
  | none => .tup [.own 0 0 0, .b false]
def obN : Option (List Int) → List Obj
  | some _ => []
  | none => [.arr (.int .i64) [] true]
theorem nextF_bad {f cols : List Int} {k r : Nat} (h : fine f cols = false) : nextF f k r cols = none := by cases r <;> simp [nextF, h]
theorem l22Next (f : List Int) (n k : Nat) (hn : n ≤ 24) (hk : k ≤ 7) (hf : f.length ≤ 24) (he : f.length % 2 = 0) (hpos : ∀ i : Nat, i < f.length → 0 ≤ rd f i) : ∀ (r : Nat) (cols : List Int), cols.length + r = n → ConT Tryd.prog 212 [.il f, .i n, .i k, .il cols] (resN (nextF f k r cols)) (obN (nextF f k r cols)) := by
  intro r
  induction r with
  | zero =>
    intro cols hc
    refine conT_of hmix hTab Tryd.func212 rfl rfl (by kernel_rfl) (by show 4 ≤ Tryd.f212.ntmps; decide) ?_
    refine stp ?_; try with_reducible exact True.intro
    refine .inl ⟨_, _, _, (l22Fine f cols hf he hpos).toT, ⟨⟨_, rfl, rfl⟩, ⟨_, rfl, rfl⟩, trivial⟩, ?_⟩
    refine stp ?_; try with_reducible exact True.intro
    refine Br.mk (fun h1 => ?_) (fun h1 => ?_) <;> simp [-Int.ofNat_toNat] at h1
    · rw [nextF_bad h1]
      refine stp ?_; try with_reducible exact True.intro
      exact ⟨.frz [], [0], ⟨rfl, trivial⟩, ⟨rfl, trivial⟩, by decide, rfl, rfl, rfl⟩
    · have hN : nextF f k 0 cols = some cols := by simp [nextF, h1]
      rw [hN]
      refine stp ?_; try with_reducible exact True.intro
      refine Br.mk (fun h2 => ?_) (fun h2 => ?_) <;> simp [-Int.ofNat_toNat] at h2
      · refine stp ?_; try with_reducible exact True.intro
        exact ⟨.frz [], [], ⟨rfl, trivial⟩, trivial, by decide, rfl, rfl, rfl⟩
      · omega
  | succ r ih =>
    intro cols hc
    refine conT_of hmix hTab Tryd.func212 rfl rfl (by kernel_rfl) (by show 4 ≤ Tryd.f212.ntmps; decide) ?_
    refine stp ?_; try with_reducible exact True.intro
    refine .inl ⟨_, _, _, (l22Fine f cols hf he hpos).toT, ⟨⟨_, rfl, rfl⟩, ⟨_, rfl, rfl⟩, trivial⟩, ?_⟩
    refine stp ?_; try with_reducible exact True.intro
    refine Br.mk (fun h1 => ?_) (fun h1 => ?_) <;> simp [-Int.ofNat_toNat] at h1
    · rw [nextF_bad h1]
      refine stp ?_; try with_reducible exact True.intro
      exact ⟨.frz [], [0], ⟨rfl, trivial⟩, ⟨rfl, trivial⟩, by decide, rfl, rfl, rfl⟩
    · have hN : nextF f k (r + 1) cols = firstT (fun c => nextF f k r (cols ++ [(c : Int)])) k 0 := by simp [nextF, h1]
      rw [hN]
      refine stp ?_; try with_reducible exact True.intro
      refine Br.mk (fun h2 => ?_) (fun h2 => ?_) <;> simp [-Int.ofNat_toNat] at h2
      · omega
      · refine stp ?_; try with_reducible exact True.intro
        refine ⟨Nat, fun c => c ≤ k ∧ firstT (fun c => nextF f k r (cols ++ [(c : Int)])) (k - c) c = firstT (fun c => nextF f k r (cols ++ [(c : Int)])) k 0, fun c => k - c, fun c => [(0, .il f), (1, .i n), (2, .i k), (3, .il cols), (10, .i c)], fun c => [], ⟨0, ⟨.frz [], [], ⟨rfl, rfl, rfl, rfl, rfl, trivial⟩, trivial, by decide, rfl, rfl, rfl⟩, by simp⟩, fun c ⟨hi, hc2⟩ => ?_⟩
        replace hi : c ≤ k := hi
        refine stp ?_; try with_reducible exact True.intro
        refine Br.mk (fun h3 => ?_) (fun h3 => ?_) <;> simp [-Int.ofNat_toNat] at h3
        · have e1 : k - c = (k - (c + 1)) + 1 := by omega
          rw [e1, firstT] at hc2
          have hcall := ih (cols ++ [(c : Int)]) (by simp; omega)
          refine stp ?_; try with_reducible exact True.intro
          cases hx : nextF f k r (cols ++ [(c : Int)]) with
          | some res =>
            rw [hx] at hc2 hcall
            simp only at hc2
            rw [← hc2]
            refine .inl ⟨_, _, _, hcall, ⟨⟨_, rfl, rfl⟩, rfl, rfl, ⟨_, _, rfl, by simp, by simp; exact List.take_of_length_le (by simp)⟩, trivial⟩, ?_⟩
            refine stp ?_; try with_reducible exact True.intro
            exact ⟨.frz [], [], ⟨rfl, trivial⟩, trivial, by decide, rfl, rfl, rfl⟩
          | none =>
            rw [hx] at hc2 hcall
            simp only at hc2
            refine .inl ⟨_, _, _, hcall, ⟨⟨_, rfl, rfl⟩, rfl, rfl, ⟨_, _, rfl, by simp, by simp; exact List.take_of_length_le (by simp)⟩, trivial⟩, ?_⟩
            refine stp ?_; try with_reducible exact True.intro
            exact ⟨c + 1, ⟨.frz [], [], ⟨rfl, rfl, rfl, rfl, rfl, trivial⟩, trivial, by decide, rfl, rfl, rfl⟩, ⟨h3, hc2⟩, by dsimp only; omega⟩
        · refine stp ?_; try with_reducible exact True.intro
          obtain rfl : c = k := by omega
          rw [Nat.sub_self, firstT] at hc2
          rw [← hc2]
          exact ⟨.frz [], [0], ⟨rfl, trivial⟩, ⟨rfl, trivial⟩, by decide, rfl, rfl, rfl⟩
/-- The first colouring. -/
def colT (m : List Int) (k : Nat) : Option (List Int) := nextF (faces m) k (cyc (dualF m)).length []
def resC : Option (List Int) → V
  | some r => .il r
  | none => .own 0 0 0
theorem FirstColouringS (m : List Int) (a : Int) (hm : (m.length : Int) ≤ 1048576) : ConT Tryd.prog 120 [.il m, .i a] (resC (if isMap m = true ∧ 1 ≤ a ∧ a ≤ 7 then colT m a.toNat else none)) (obN (if isMap m = true ∧ 1 ≤ a ∧ a ≤ 7 then colT m a.toNat else none)) := by
  refine conT_of hmix hTab Tryd.func120 rfl rfl (by kernel_rfl) (by show 2 ≤ Tryd.f120.ntmps; decide) ?_
  refine stp ?_; try with_reducible exact True.intro
  refine .inl ⟨_, _, _, (IsMapS m hm).toT, ⟨⟨_, rfl, rfl⟩, trivial⟩, ?_⟩
  refine stp ?_; try with_reducible exact True.intro
  refine Br.mk (fun h => ?_) (fun h => ?_)
  · rw [if_neg (by simp at h; simp [h])]
    refine stp ?_; try with_reducible exact True.intro
    exact ⟨.frz [], [0], ⟨rfl, trivial⟩, ⟨rfl, trivial⟩, by decide, rfl, rfl, rfl⟩
  · simp only [Bool.not_eq_eq_eq_not, Bool.not_false] at h
    obtain ⟨h1, h2, h3, h4⟩ := isMap_facts h
    refine stp ?_; try with_reducible exact True.intro
    refine .inl ⟨_, _, _, (l1In _ _ _).toT, ⟨rfl, rfl, rfl, trivial⟩, ?_⟩
    refine stp ?_; try with_reducible exact True.intro
    refine Br.mk (fun h5 => ?_) (fun h5 => ?_)
    · simp only [Bool.not_eq_eq_eq_not, Bool.not_true, decide_eq_false_iff_not] at h5
      rw [if_neg (fun c => h5 c.2)]
      refine stp ?_; try with_reducible exact True.intro
      exact ⟨.frz [], [0], ⟨rfl, trivial⟩, ⟨rfl, trivial⟩, by decide, rfl, rfl, rfl⟩
    · simp only [Bool.not_eq_eq_eq_not, Bool.not_false, decide_eq_true_eq] at h5
      rw [if_pos ⟨h, h5⟩]
      refine stp ?_; try with_reducible exact True.intro
      refine .inl ⟨_, _, _, l22Faces m h1 h3 h4, ⟨⟨_, rfl, rfl⟩, trivial⟩, ?_⟩
      refine stp ?_; try with_reducible exact True.intro
      refine .inl ⟨_, _, _, FacesOf m hm, ⟨⟨_, rfl, rfl⟩, trivial⟩, ?_⟩
      rw [if_pos h]
      refine stp ?_; try with_reducible exact True.intro
      have hcl : (cyc (dualF m)).length ≤ 24 := by have := cyc_length (dualF m); rw [dualF_length] at this; omega
      have hcall := l22Next (faces m) (cyc (dualF m)).length a.toNat hcl (by omega) (by rw [faces_length]; exact h1) (by rw [faces_length]; exact h3) (fun i hi => (faces_in (by rwa [faces_length] at hi)).1) (cyc (dualF m)).length [] (by simp)
      rw [show ((a.toNat : Nat) : Int) = a by omega] at hcall
      have e1 : colT m a.toNat = nextF (faces m) a.toNat (cyc (dualF m)).length [] := rfl
      rw [e1]
      cases hx : nextF (faces m) a.toNat (cyc (dualF m)).length [] with
      | some res =>
        rw [hx] at hcall
        refine .inl ⟨_, _, _, hcall, ⟨⟨_, _, rfl, by simp [faces_length], by simp [List.take_of_length_le, faces_length]⟩, rfl, rfl, ⟨_, _, rfl, by simp, by simp⟩, trivial⟩, ?_⟩
        refine stp ?_; try with_reducible exact True.intro
        exact ⟨.frz [], [], ⟨rfl, trivial⟩, trivial, by decide, rfl, rfl, rfl⟩
      | none =>
        rw [hx] at hcall
        refine .inl ⟨_, _, _, hcall, ⟨⟨_, _, rfl, by simp [faces_length], by simp [List.take_of_length_le, faces_length]⟩, rfl, rfl, ⟨_, _, rfl, by simp, by simp⟩, trivial⟩, ?_⟩
        refine stp ?_; try with_reducible exact True.intro
        exact ⟨.frz [], [3], ⟨rfl, trivial⟩, ⟨rfl, trivial⟩, by decide, rfl, rfl, rfl⟩
end Go.Proofs.YtffiddkignmobaaDoorTv
end
section
open Go Go.Proofs.YtffiddkignmobaaDoorVe Go.Proofs.YtffiddkignmobaaDoorTv Go.Proofs
namespace Go.Proofs.YtffiddkignmobaaDoorTv
set_option maxRecDepth 8000
set_option maxHeartbeats 2000000
/-- May a face have this colour, beside those that have one already? -/
def okc (row : List Int) (f : Int) (out : List Int) (c : Int) : Bool := row.all fun b => decide (b ≥ f) || !decide (rd out b = c)
def loopG (g : List Int → Bool × List Int) (row : List Int) (f : Nat) : Nat → Nat → List Int → Bool × List Int
  | 0, _, out => (false, out)
  | j + 1, c, out => match okc row f out c with
    | true => match g (out.set f c) with
      | (true, out') => (true, out')
      | (false, out') => loopG g row f j (c + 1) out'
    | false => loopG g row f j (c + 1) out
def tryF (near : List (List Int)) (k : Nat) : Nat → Nat → List Int → Bool × List Int
  | 0, _, out => (true, out)
  | r + 1, f, out => loopG (tryF near k r (f + 1)) (rdR near f) f k 0 out
theorem loopG_length {g : List Int → Bool × List Int} (hg : ∀ o, (g o).2.length = o.length) (row : List Int) (f : Nat) : ∀ (j c : Nat) (out : List Int), (loopG g row f j c out).2.length = out.length
  | 0, c, out => rfl
  | j + 1, c, out => by
    unfold loopG
    split
    · have := hg (out.set f c)
      split
      · rename_i e; rw [e] at this; simpa using this
      · rename_i e; rw [e] at this; rw [loopG_length hg row f j (c + 1)]; simpa using this
    · exact loopG_length hg row f j (c + 1) out
theorem tryF_length (near : List (List Int)) (k : Nat) : ∀ (r f : Nat) (out : List Int), (tryF near k r f out).2.length = out.length
  | 0, f, out => rfl
  | r + 1, f, out => loopG_length (tryF_length near k r (f + 1)) _ _ _ _ _
def frzObj (near : List (List Int)) : Obj := .frz (.list (.int .i64)) near
def clo : V := .fn 215 [.pcell 0 0, .pcell 1 0, .pcell 2 0, .pcell 3 0, .pcell 4 0]
def sig (n k : Nat) (o5 : Obj) (out : List Int) : List Obj := [.vars [.i n], .vars [.i k], .vars [.own 5 0 n], .vars [.own 6 0 n], .vars [clo], o5, .arr (.int .i64) out true]
theorem tryC (near : List (List Int)) (n k : Nat) (hn : n ≤ 24) (hk : k ≤ 7) (hlen : near.length = n) (hrow : ∀ r ∈ near, r.length ≤ 24 ∧ ∀ b ∈ r, 0 ≤ b ∧ b < (n : Int)) (o5 : Obj) (h5 : o5 = .arr (.list (.int .i64)) near true ∨ o5 = frzObj near) : ∀ (r f : Nat) (out : List Int), f + r = n → out.length = n →
    ConI Tryd.prog 215 [.i f, .pcell 0 0, .pcell 1 0, .pcell 2 0, .pcell 3 0, .pcell 4 0] (sig n k o5 out) (.b (tryF near k r f out).1) (sig n k (frzObj near) (tryF near k r f out).2) := by
  intro r
  induction r generalizing o5 with
  | zero =>
    intro f out hf ho
    rcases h5 with rfl | rfl
    all_goals
      refine conI_of hmix hTab Tryd.func215 rfl rfl (by kernel_rfl) (by show 6 ≤ Tryd.f215.ntmps; decide) ?_
      refine stp ?_; try with_reducible exact True.intro
      refine Br.mk (fun h1 => ?_) (fun h1 => ?_) <;> simp [-Int.ofNat_toNat] at h1
      · refine stp ?_; try with_reducible exact True.intro
        exact ⟨.frz [5], [0, 1, 2, 3, 4, 5, 6], ⟨rfl, trivial⟩, ⟨rfl, rfl, rfl, rfl, rfl, rfl, rfl, trivial⟩, by decide, rfl, rfl, rfl⟩
      · omega
  | succ r ih =>
    intro f out hf ho
    have hrl : rdR near f ∈ near := by simp [rdR, show f < near.length by omega]
    obtain ⟨hr1, hr2⟩ := hrow _ hrl
    have hr3 : ∀ j : Nat, j < (rdR near f).length → 0 ≤ rd (rdR near f) j ∧ rd (rdR near f) j < (n : Int) := fun j hj => hr2 _ (by simp [rd, hj])
    have hrd : rdT (.list (.int .i64)) near ((f : Int).toNat : Nat) = rdR near f := by simp [rdR]
    generalize hR : rdR near f = row at *
    have body : ∀ (g : Gho 7 (sig n k o5 out)), g.σ' = sig n k (frzObj near) out → ConI Tryd.prog 215 [.i f, .pcell 0 0, .pcell 1 0, .pcell 2 0, .pcell 3 0, .pcell 4 0] (sig n k o5 out) (.b (tryF near k (r + 1) f out).1) (sig n k (frzObj near) (tryF near k (r + 1) f out).2) := fun g hg => by
      rcases h5 with rfl | rfl
      all_goals
        refine conI_of hmix hTab Tryd.func215 rfl rfl (by kernel_rfl) (by show 6 ≤ Tryd.f215.ntmps; decide) ?_
        refine stp ?_; try with_reducible exact True.intro
        refine Br.mk (fun h1 => ?_) (fun h1 => ?_) <;> simp [-Int.ofNat_toNat] at h1
        · omega
        · refine stp ?_; try with_reducible exact True.intro
          refine ⟨Nat × List Int, fun a => a.1 ≤ k ∧ a.2.length = n ∧ loopG (tryF near k r (f + 1)) row f (k - a.1) a.1 a.2 = tryF near k (r + 1) f out, fun a => k - a.1, fun a => [(0, .i f), (1, .pcell 0 0), (2, .pcell 1 0), (3, .pcell 2 0), (4, .pcell 3 0), (5, .pcell 4 0), (15, .i k), (16, .i a.1)], fun a => sig n k (frzObj near) a.2, ⟨(0, out), ⟨g, [0, 1, 2, 3, 4, 5, 6], ⟨rfl, rfl, rfl, rfl, rfl, rfl, rfl, rfl, trivial⟩, by rw [hg]; exact ⟨rfl, rfl, rfl, rfl, rfl, rfl, rfl, trivial⟩, by decide, rfl, rfl, rfl⟩, by simp [ho, tryF, hR]⟩, fun ⟨c, o2⟩ ⟨hc, hol, hl⟩ => ?_⟩
          dsimp only at hc hol hl
          refine stp ?_; try with_reducible exact True.intro
          refine Br.mk (fun h2 => ?_) (fun h2 => ?_) <;> simp [-Int.ofNat_toNat] at h2
          · have e1 : k - c = (k - (c + 1)) + 1 := by omega
            rw [e1, loopG] at hl
            refine stp ?_; try with_reducible exact True.intro
            simp only [hrd]
            refine ⟨Nat × Bool, fun a => a.1 ≤ row.length ∧ (a.2 && (row.drop a.1).all fun b => decide (b ≥ (f : Int)) || !decide (rd o2 b = (c : Int))) = okc row f o2 c, fun a => row.length - a.1, fun a => [(0, .i f), (1, .pcell 0 0), (2, .pcell 1 0), (3, .pcell 2 0), (4, .pcell 3 0), (5, .pcell 4 0), (15, .i k), (16, .i c), (8, .i c), (9, .b a.2), (22, .il row), (23, .i row.length), (24, .i a.1)], fun a => sig n k (frzObj near) o2, ⟨(0, true), ⟨.frz [], [0, 1, 2, 3, 4, 5, 6], ⟨rfl, rfl, rfl, rfl, rfl, rfl, rfl, rfl, rfl, rfl, rfl, rfl, rfl, trivial⟩, ⟨rfl, rfl, rfl, rfl, rfl, rfl, rfl, trivial⟩, by decide, rfl, rfl, rfl⟩, by simp [okc]⟩, fun ⟨j, ok⟩ ⟨hj, hok⟩ => ?_⟩
            dsimp only at hj hok
            refine stp ?_; try with_reducible exact True.intro
            refine Br.mk (fun h3 => ?_) (fun h3 => ?_) <;> simp [-Int.ofNat_toNat] at h3
            · have h3' := hr3 j h3
              rw [drop_cons h3, List.all_cons] at hok
              have back : ∀ ok' : Bool, (ok' && ((row.drop (j + 1)).all fun b => decide (b ≥ (f : Int)) || !decide (rd o2 b = (c : Int)))) = okc row f o2 c → (j + 1 ≤ row.length ∧ (ok' && (row.drop (j + 1)).all fun b => decide (b ≥ (f : Int)) || !decide (rd o2 b = (c : Int))) = okc row f o2 c) := fun ok' h => ⟨h3, h⟩
              refine stp ?_; try with_reducible exact True.intro
              refine Br.mk (fun h4 => ?_) (fun h4 => ?_) <;> simp [-Int.ofNat_toNat] at h4
              · subst h4
                simp only [Bool.true_and] at hok
                refine stp ?_; try with_reducible exact True.intro
                refine Br.mk (fun h5 => ?_) (fun h5 => ?_) <;> simp [-Int.ofNat_toNat] at h5
                · refine stp ?_; try with_reducible exact True.intro
                  exact ⟨(j + 1, true), ⟨.frz [], [0, 1, 2, 3, 4, 5, 6], ⟨rfl, rfl, rfl, rfl, rfl, rfl, rfl, rfl, rfl, rfl, rfl, rfl, rfl, trivial⟩, ⟨rfl, rfl, rfl, rfl, rfl, rfl, rfl, trivial⟩, by decide, rfl, rfl, rfl⟩, back true (by simpa [h5] using hok), by dsimp only; omega⟩
                · refine stp ?_; try with_reducible exact True.intro
                  refine ⟨(j + 1, !decide (rd o2 (rd row j) = (c : Int))), ⟨.frz [], [0, 1, 2, 3, 4, 5, 6], ⟨rfl, rfl, rfl, rfl, rfl, rfl, rfl, rfl, rfl, ?_, rfl, rfl, rfl, trivial⟩, ⟨rfl, rfl, rfl, rfl, rfl, rfl, rfl, trivial⟩, by decide, rfl, rfl, rfl⟩, back _ (by simpa [show ¬ (f : Int) ≤ rd row j by omega] using hok), by dsimp only; omega⟩
                  have e5 : (((rd row j).toNat : Nat) : Int) = rd row j := by omega
                  show V.b (decide (rd o2 (((rd row j).toNat : Nat) : Int) ≠ (c : Int))) = V.b (!decide (rd o2 (rd row j) = (c : Int)))
                  rw [e5, ← decide_not]
              · subst h4
                refine stp ?_; try with_reducible exact True.intro
                exact ⟨(j + 1, false), ⟨.frz [], [0, 1, 2, 3, 4, 5, 6], ⟨rfl, rfl, rfl, rfl, rfl, rfl, rfl, rfl, rfl, rfl, rfl, rfl, rfl, trivial⟩, ⟨rfl, rfl, rfl, rfl, rfl, rfl, rfl, trivial⟩, by decide, rfl, rfl, rfl⟩, back false (by simpa using hok), by dsimp only; omega⟩
            · refine stp ?_; try with_reducible exact True.intro
              obtain rfl : j = row.length := Nat.le_antisymm hj h3
              simp only [List.drop_length, List.all_nil, Bool.and_true] at hok
              subst hok
              refine Br.mk (fun h4 => ?_) (fun h4 => ?_) <;> simp [-Int.ofNat_toNat] at h4
              · rw [h4] at hl
                simp only at hl
                have hcall := ih (frzObj near) (.inr rfl) (f + 1) (o2.set f (c : Int)) (by omega) (by simpa using hol)
                have hol' : f < o2.length := by omega
                refine stp ?_; try with_reducible exact True.intro
                rcases hx : tryF near k r (f + 1) (o2.set f (c : Int)) with ⟨b, o3⟩
                have hl3 := tryF_length near k r (f + 1) (o2.set f (c : Int))
                rw [hx] at hl hcall hl3
                simp only [List.length_set] at hl hcall hl3
                refine .inr ⟨[0, 1, 2, 3, 4, 5, 6], _, _, _, _, hcall, by decide, ⟨rfl, rfl, rfl, rfl, rfl, rfl, by simp [Obj.ren], trivial⟩, rfl, .inr ⟨rfl, rfl⟩, ?_⟩
                refine stp ?_; try with_reducible exact True.intro
                cases b with
                | true =>
                  refine stp ?_; try with_reducible exact True.intro
                  rw [← hl]
                  exact (fitK [] [0, 1, 2, 3, 4, 5, 6])
                | false =>
                  simp only at hl
                  refine brF rfl ?_
                  refine stp ?_; try with_reducible exact True.intro
                  exact ⟨(c + 1, o3), (fitK [] [0, 1, 2, 3, 4, 5, 6]), ⟨h2, by dsimp only; omega, hl⟩, by dsimp only; omega⟩
              · rw [h4] at hl
                simp only at hl
                refine stp ?_; try with_reducible exact True.intro
                exact ⟨(c + 1, o2), ⟨.frz [], [0, 1, 2, 3, 4, 5, 6], ⟨rfl, rfl, rfl, rfl, rfl, rfl, rfl, rfl, trivial⟩, ⟨rfl, rfl, rfl, rfl, rfl, rfl, rfl, trivial⟩, by decide, rfl, rfl, rfl⟩, ⟨h2, hol, hl⟩, by dsimp only; omega⟩
          · refine stp ?_; try with_reducible exact True.intro
            obtain rfl : c = k := by omega
            rw [Nat.sub_self, loopG] at hl
            rw [← hl]
            exact ⟨.frz [], [0, 1, 2, 3, 4, 5, 6], ⟨rfl, trivial⟩, ⟨rfl, rfl, rfl, rfl, rfl, rfl, rfl, trivial⟩, by decide, rfl, rfl, rfl⟩
    rcases h5 with rfl | rfl
    · exact body (.frz [5]) rfl
    · exact body (.frz []) rfl
end Go.Proofs.YtffiddkignmobaaDoorTv
end
section
open Go Go.Proofs.YtffiddkignmobaaDoorVe Go.Proofs.YtffiddkignmobaaDoorTv Go.Proofs
namespace Go.Proofs.YtffiddkignmobaaDoorTv
set_option maxRecDepth 8000
set_option maxHeartbeats 2000000
/-- The neighbours of the faces; none where a face lies beside itself. -/
def nearF (f : List Int) : Nat → Nat → List (List Int) → Option (List (List Int))
  | 0, _, near => some near
  | r + 1, d, near => if rd f d = rd f (mate d) then none else nearF f r (d + 1) (near.set (rd f d).toNat (rdR near (rd f d) ++ [rd f (mate d)]))
theorem rdR_set {l : List (List Int)} {i j : Int} {x : List Int} (hi : 0 ≤ i ∧ i < l.length) (hj : 0 ≤ j) : rdR (l.set i.toNat x) j = if j = i then x else rdR l j := by
  simp only [rdR, List.getD_eq_getElem?_getD, List.getElem?_set]
  by_cases h : j = i
  · subst h
    rw [if_pos rfl, if_pos (by omega), if_pos rfl]
    rfl
  · rw [if_neg (by omega), if_neg h]
theorem nearF_none {f : List Int} : ∀ (r d : Nat) (near : List (List Int)), nearF f r d near = none → ∃ d' : Nat, d ≤ d' ∧ d' < d + r ∧ rd f d' = rd f (mate d')
  | 0, d, near, h => by simp [nearF] at h
  | r + 1, d, near, h => by
    unfold nearF at h
    split at h
    · exact ⟨d, Nat.le_refl _, by omega, by assumption⟩
    · obtain ⟨d', h1, h2, h3⟩ := nearF_none r (d + 1) _ h
      exact ⟨d', by omega, by omega, h3⟩
theorem nearF_some {f : List Int} {n : Nat} : ∀ (r d : Nat) (near out : List (List Int)), (∀ i : Nat, i < d + r → 0 ≤ rd f i ∧ rd f i < n) → near.length = n → nearF f r d near = some out →
    out.length = n ∧ (∀ d' : Nat, d ≤ d' → d' < d + r → rd f d' ≠ rd f (mate d')) ∧ ∀ a : Int, 0 ≤ a → a < n → (rdR out a).length ≤ (rdR near a).length + r ∧ ∀ b, b ∈ rdR out a ↔ b ∈ rdR near a ∨ ∃ d' : Nat, d ≤ d' ∧ d' < d + r ∧ rd f d' = a ∧ rd f (mate d') = b
  | 0, d, near, out, hf, hn, h => by
    simp only [nearF, Option.some.injEq] at h
    subst h
    refine ⟨hn, fun d' h1 h2 => by omega, fun a h1 h2 => ⟨by omega, fun b => ⟨.inl, fun h => ?_⟩⟩⟩
    rcases h with h | ⟨d', h3, h4, _⟩
    · exact h
    · omega
  | r + 1, d, near, out, hf, hn, h => by
    unfold nearF at h
    split at h
    · cases h
    · rename_i hne
      have hfd := hf d (by omega)
      obtain ⟨h1, h2, h3⟩ := nearF_some r (d + 1) _ out (fun i hi => hf i (by omega)) (by simpa using hn) h
      refine ⟨h1, fun d' h4 h5 => ?_, fun a h4 h5 => ?_⟩
      · by_cases e : d' = d
        · rw [e]; exact hne
        · exact h2 d' (by omega) (by omega)
      · obtain ⟨h6, h7⟩ := h3 a h4 h5
        rw [rdR_set (by omega) h4] at h6 h7
        by_cases e : a = rd f d
        · rw [if_pos e] at h6 h7
          rw [← e] at h6 h7
          refine ⟨by simp at h6; omega, fun b => ?_⟩
          rw [h7 b]
          simp only [List.mem_append, List.mem_singleton]
          refine ⟨fun h => ?_, fun h => ?_⟩
          · rcases h with (h | h) | ⟨d', k1, k2, k3⟩
            · exact .inl h
            · exact .inr ⟨d, Nat.le_refl _, by omega, e.symm, h.symm⟩
            · exact .inr ⟨d', by omega, by omega, k3⟩
          · rcases h with h | ⟨d', k1, k2, k3, k4⟩
            · exact .inl (.inl h)
            · by_cases e2 : d' = d
              · subst e2; exact .inl (.inr k4.symm)
              · exact .inr ⟨d', by omega, by omega, k3, k4⟩
        · rw [if_neg e] at h6 h7
          refine ⟨by omega, fun b => ?_⟩
          rw [h7 b]
          refine ⟨fun h => ?_, fun h => ?_⟩
          · rcases h with h | ⟨d', k1, k2, k3⟩
            · exact .inl h
            · exact .inr ⟨d', by omega, by omega, k3⟩
          · rcases h with h | ⟨d', k1, k2, k3, k4⟩
            · exact .inl h
            · by_cases e2 : d' = d
              · subst e2; exact absurd k3.symm e
              · exact .inr ⟨d', by omega, by omega, k3, k4⟩
theorem fine_nil {f : List Int} (he : f.length % 2 = 0) (hpos : ∀ i : Nat, i < f.length → 0 ≤ rd f i) : fine f [] = true ↔ ∀ p : Nat, p < f.length → p % 2 = 0 → rd f p ≠ rd f ((p : Int) + 1) := by
  rw [fine_iff]
  refine forall_congr' fun p => forall_congr' fun h1 => forall_congr' fun h2 => ?_
  have := hpos p h1
  simp [badC]
  intro h
  omega
/-- A face's colour is free for its neighbours: what the closure asks and what the reference asks. -/
theorem okc_fine {f : List Int} {n j : Nat} {near : List (List Int)} {out cols : List Int} {c : Int} (he : f.length % 2 = 0) (hf : ∀ i : Nat, i < f.length → 0 ≤ rd f i ∧ rd f i < n) (hne : ∀ d : Nat, d < f.length → rd f d ≠ rd f (mate d)) (hrow : ∀ b, b ∈ rdR near j ↔ ∃ d : Nat, d < f.length ∧ rd f d = j ∧ rd f (mate d) = b) (hj : j < n) (hout : out.length = n) (hcols : out.take j = cols) (hfine : fine f cols = true) : okc (rdR near j) j out c = fine f (cols ++ [c]) := by
  have hcl : cols.length = j := by rw [← hcols]; simp; omega
  have get : ∀ b : Int, 0 ≤ b → b < j → rd (cols ++ [c]) b = rd out b ∧ rd cols b = rd out b := fun b h1 h2 => by
    have h3 : rd cols b = rd out b := by
      rw [← hcols]
      simp only [rd, List.getD_eq_getElem?_getD]
      rw [List.getElem?_take_of_lt (by omega)]
    refine ⟨?_, h3⟩
    rw [← h3]
    simp only [rd, List.getD_eq_getElem?_getD]
    rw [List.getElem?_append_left (by omega)]
  have last : rd (cols ++ [c]) j = c := by simp [rd, List.getD_eq_getElem?_getD, ← hcl]
  have hm : ∀ p : Nat, p < f.length → p % 2 = 0 → (mate p = ((p + 1 : Nat) : Int)) ∧ mate (p + 1) = (p : Int) := fun p h1 h2 => by
    unfold mate
    rw [if_pos h2, if_neg (by omega)]
    omega
  rw [Bool.eq_iff_iff]
  constructor
  · intro h
    have h' : ∀ b : Int, b ∈ rdR near j → b < j → rd out b ≠ c := fun b hb hbj e => by
      simp only [okc, List.all_eq_true, Bool.or_eq_true, decide_eq_true_eq, Bool.not_eq_true', decide_eq_false_iff_not] at h
      rcases h b hb with h | h
      · omega
      · exact h e
    rw [fine_iff]
    intro p hp h2
    have hfp := fine_iff.1 hfine p hp h2
    obtain ⟨m1, m2⟩ := hm p hp h2
    have e1 : ((p + 1 : Nat) : Int) = (p : Int) + 1 := by omega
    have hne1 := hne p hp
    rw [m1, e1] at hne1
    have fa := hf p hp
    have fb := hf (p + 1) (by omega)
    rw [e1] at fb
    simp only [badC, List.length_append, List.length_singleton, hcl, Bool.or_eq_false_iff, decide_eq_false_iff_not, Bool.and_eq_false_iff] at hfp ⊢
    refine ⟨hne1, ?_⟩
    by_cases ca : rd f p < j
    · by_cases cb : rd f ((p : Int) + 1) < j
      · right; right
        rw [(get _ fa.1 ca).1, (get _ fb.1 cb).1]
        rcases hfp.2 with h | h | h
        · omega
        · omega
        · rwa [(get _ fa.1 ca).2, (get _ fb.1 cb).2] at h
      · by_cases cc : rd f ((p : Int) + 1) = j
        · right; right
          rw [(get _ fa.1 ca).1, cc, last]
          refine h' _ ((hrow _).2 ⟨p + 1, by omega, ?_, by rw [m2]⟩) ca
          rw [e1, cc]
        · right; left; omega
    · by_cases cc : rd f p = j
      · by_cases cb : rd f ((p : Int) + 1) < j
        · right; right
          rw [(get _ fb.1 cb).1, cc, last]
          refine fun e => h' _ ((hrow _).2 ⟨p, hp, cc, by rw [m1, e1]⟩) cb e.symm
        · right; left; omega
      · left; omega
  · intro h
    rw [fine_iff] at h
    simp only [okc, List.all_eq_true, Bool.or_eq_true, decide_eq_true_eq, Bool.not_eq_true', decide_eq_false_iff_not]
    intro b hb
    obtain ⟨d, d1, d2, d3⟩ := (hrow b).1 hb
    by_cases hbj : b ≥ j
    · exact .inl hbj
    · right
      by_cases h2 : d % 2 = 0
      · obtain ⟨m1, m2⟩ := hm d d1 h2
        have e1 : ((d + 1 : Nat) : Int) = (d : Int) + 1 := by omega
        have h3 := h d d1 h2
        have fb := hf (d + 1) (by omega)
        rw [m1, e1] at d3
        rw [e1] at fb
        simp only [badC, List.length_append, List.length_singleton, hcl, Bool.or_eq_false_iff, decide_eq_false_iff_not, Bool.and_eq_false_iff] at h3
        rw [d3] at fb h3
        rw [d2, last, (get b fb.1 (by omega)).1] at h3
        rcases h3.2 with h | h | h
        · omega
        · omega
        · exact fun e => h e.symm
      · obtain ⟨m1, m2⟩ := hm (d - 1) (by omega) (by omega)
        have e1 : ((d - 1 : Nat) : Int) + 1 = d := by omega
        have e2 : d - 1 + 1 = d := by omega
        have h3 := h (d - 1) (by omega) (by omega)
        have fb := hf (d - 1) (by omega)
        rw [e2] at m2
        rw [m2] at d3
        rw [e1] at h3
        simp only [badC, List.length_append, List.length_singleton, hcl, Bool.or_eq_false_iff, decide_eq_false_iff_not, Bool.and_eq_false_iff] at h3
        rw [d3] at fb h3
        rw [d2, last, (get b fb.1 (by omega)).1] at h3
        rcases h3.2 with h | h | h
        · omega
        · omega
        · exact h
theorem loopG_take {g : List Int → Bool × List Int} {f : Nat} (hg : ∀ o, (g o).2.take (f + 1) = o.take (f + 1)) (row : List Int) : ∀ (j c : Nat) (out : List Int), (loopG g row f j c out).2.take f = out.take f
  | 0, c, out => rfl
  | j + 1, c, out => by
    have hs : (g (out.set f c)).2.take f = out.take f := by
      have := congrArg (List.take f) (hg (out.set f c))
      simpa [List.take_take, show min f (f + 1) = f by omega, List.take_set_of_le] using this
    unfold loopG
    split
    · split
      · rename_i e; rw [e] at hs; exact hs
      · rename_i e; rw [e] at hs; rw [loopG_take hg row j (c + 1)]; exact hs
    · exact loopG_take hg row j (c + 1) out
theorem tryF_take (near : List (List Int)) (k : Nat) : ∀ (r f : Nat) (out : List Int), (tryF near k r f out).2.take f = out.take f
  | 0, f, out => rfl
  | r + 1, f, out => loopG_take (tryF_take near k r (f + 1)) _ _ _ _
def optB : Bool × List Int → Option (List Int)
  | (true, o) => some o
  | (false, _) => none
theorem try_next {f : List Int} {n k : Nat} {near : List (List Int)} (he : f.length % 2 = 0) (hf : ∀ i : Nat, i < f.length → 0 ≤ rd f i ∧ rd f i < n) (hne : ∀ d : Nat, d < f.length → rd f d ≠ rd f (mate d)) (hrow : ∀ j : Nat, j < n → ∀ b, b ∈ rdR near j ↔ ∃ d : Nat, d < f.length ∧ rd f d = j ∧ rd f (mate d) = b) :
    ∀ (r j : Nat) (out : List Int), j + r = n → out.length = n → fine f (out.take j) = true → nextF f k r (out.take j) = optB (tryF near k r j out) := by
  intro r
  induction r with
  | zero =>
    intro j out hj ho hfi
    obtain rfl : j = n := by omega
    rw [nextF, if_pos hfi, tryF, optB, List.take_of_length_le (by omega)]
  | succ r ih =>
    intro j out hj ho hfi
    rw [nextF, if_pos hfi, tryF]
    generalize hcols : out.take j = cols at hfi
    have aux : ∀ (q c : Nat) (o : List Int), o.length = n → o.take j = cols → firstT (fun c => nextF f k r (cols ++ [(c : Int)])) q c = optB (loopG (tryF near k r (j + 1)) (rdR near j) j q c o) := by
      intro q
      induction q with
      | zero => intro c o _ _; rfl
      | succ q iq =>
        intro c o ho2 hc2
        have hok := okc_fine (c := (c : Int)) he hf hne (hrow j (by omega)) (by omega) ho2 hc2 hfi
        rw [firstT, loopG, hok]
        cases hb : fine f (cols ++ [(c : Int)]) with
        | false =>
          rw [nextF_bad hb]
          exact iq (c + 1) o ho2 hc2
        | true =>
          have hset : (o.set j (c : Int)).take (j + 1) = cols ++ [(c : Int)] := by
            rw [List.take_add_one, List.take_set_of_le (Nat.le_refl _), hc2]
            simp [ho2, show j < n by omega]
          have h1 := ih (j + 1) (o.set j (c : Int)) (by omega) (by simpa using ho2) (by rw [hset]; exact hb)
          rw [hset] at h1
          have h2 := tryF_length near k r (j + 1) (o.set j (c : Int))
          have h3 := tryF_take near k r (j + 1) (o.set j (c : Int))
          rw [h1]
          rcases hx : tryF near k r (j + 1) (o.set j (c : Int)) with ⟨b, o'⟩
          rw [hx] at h2 h3
          cases b with
          | true => rfl
          | false =>
            simp only [optB]
            refine iq (c + 1) o' (by simpa [ho2] using h2) ?_
            have := congrArg (List.take j) h3
            rw [hset, List.take_take, show min j (j + 1) = j by omega] at this
            rw [this, List.take_append_of_le_length (by rw [← hc2]; simp; omega), ← hc2, List.take_take, Nat.min_self]
    exact aux k 0 out ho hcols
def colI (m : List Int) (k : Nat) : Option (List Int) := match nearF (faces m) m.length 0 (List.replicate (cyc (dualF m)).length []) with
  | none => none
  | some near => optB (tryF near k (cyc (dualF m)).length 0 (List.replicate (cyc (dualF m)).length 0))
theorem near_facts {m : List Int} {near : List (List Int)} (h : nearF (faces m) m.length 0 (List.replicate (cyc (dualF m)).length []) = some near) : near.length = (cyc (dualF m)).length ∧ (∀ d : Nat, d < m.length → rd (faces m) d ≠ rd (faces m) (mate d)) ∧ ∀ a : Int, 0 ≤ a → a < (cyc (dualF m)).length → (rdR near a).length ≤ m.length ∧ ∀ b, b ∈ rdR near a ↔ ∃ d : Nat, d < m.length ∧ rd (faces m) d = a ∧ rd (faces m) (mate d) = b := by
  obtain ⟨h1, h2, h3⟩ := nearF_some (n := (cyc (dualF m)).length) _ _ _ _ (fun i hi => faces_in (by omega)) (by simp) h
  refine ⟨h1, fun d hd => h2 d (by omega) (by omega), fun a h4 h5 => ?_⟩
  obtain ⟨h6, h7⟩ := h3 a h4 h5
  have e : rdR (List.replicate (cyc (dualF m)).length ([] : List Int)) a = [] := by
    simp only [rdR, List.getD_eq_getElem?_getD, List.getElem?_replicate]
    split <;> rfl
  rw [e] at h6 h7
  refine ⟨by simpa using h6, fun b => ?_⟩
  rw [h7 b]
  simp
theorem colI_colT {m : List Int} (he : m.length % 2 = 0) (k : Nat) : colI m k = colT m k := by
  have hfl := faces_length m
  have hpos : ∀ i : Nat, i < (faces m).length → 0 ≤ rd (faces m) i ∧ rd (faces m) i < (cyc (dualF m)).length := fun i hi => faces_in (by omega)
  unfold colI colT
  cases hx : nearF (faces m) m.length 0 (List.replicate (cyc (dualF m)).length []) with
  | none =>
    obtain ⟨d, _, h1, h2⟩ := nearF_none _ _ _ hx
    have : fine (faces m) [] = false := by
      refine Bool.eq_false_iff.2 fun h => ?_
      rw [fine_nil (by omega) (fun i hi => (hpos i hi).1)] at h
      by_cases hd : d % 2 = 0
      · refine h d (by omega) hd ?_
        rw [mate, if_pos hd] at h2; exact h2
      · refine h (d - 1) (by omega) (by omega) ?_
        rw [mate, if_neg hd] at h2
        rw [show ((d - 1 : Nat) : Int) = (d : Int) - 1 by omega, show (d : Int) - 1 + 1 = d by omega]; exact h2.symm
    rw [nextF_bad this]
  | some near =>
    obtain ⟨h1, h2, h3⟩ := near_facts hx
    have hfin : fine (faces m) [] = true := by
      rw [fine_nil (by omega) (fun i hi => (hpos i hi).1)]
      intro p hp hp2
      have := h2 p (by omega)
      rwa [mate, if_pos hp2] at this
    have := try_next (k := k) (near := near) (by omega) hpos (fun d hd => h2 d (by omega)) (fun j hj b => by rw [(h3 j (by omega) (by omega)).2 b, hfl]) (cyc (dualF m)).length 0 (List.replicate (cyc (dualF m)).length 0) (by simp) (by simp) (by simpa using hfin)
    simpa using this.symm
end Go.Proofs.YtffiddkignmobaaDoorTv
end
section
open Go Go.Proofs.YtffiddkignmobaaDoorVe Go.Proofs.YtffiddkignmobaaDoorTv Go.Proofs
namespace Go.Proofs.YtffiddkignmobaaDoorTv
set_option maxRecDepth 8000
set_option maxHeartbeats 2000000
def resI : Option (List Int) → V
  | some r => .own 0 0 r.length
  | none => .nil .unit
def obI : Option (List Int) → List Obj
  | some r => [.arr (.int .i64) r true]
  | none => []
theorem colouring (m : List Int) (k : Nat) (hk : k ≤ 7) (h24 : m.length ≤ 24) (he : m.length % 2 = 0) (hin : InR' m) : ConT Tryd.prog 127 [.il m, .i k] (resI (colI m k)) (obI (colI m k)) := by
  refine conT_of hmix hTab Tryd.func127 rfl rfl (by kernel_rfl) (by show 2 ≤ Tryd.f127.ntmps; decide) ?_
  have hcl : (cyc (dualF m)).length ≤ 24 := by have := cyc_length (dualF m); rw [dualF_length] at this; omega
  have hfl := faces_length m
  generalize hn : (cyc (dualF m)).length = n at *
  refine stp ?_; try with_reducible exact True.intro
  refine .inl ⟨_, _, _, faceOf m h24 he hin, ⟨⟨_, rfl, rfl⟩, trivial⟩, ?_⟩
  rw [hn]
  refine stp ?_; try with_reducible exact True.intro
  refine ⟨Nat × List (List Int), fun a => a.1 ≤ m.length ∧ a.2.length = n ∧ (∀ r ∈ a.2, r.length ≤ a.1) ∧ nearF (faces m) (m.length - a.1) a.1 a.2 = nearF (faces m) m.length 0 (List.replicate n []), fun a => m.length - a.1, fun a => [(0, .il m), (1, .i k), (3, .pcell 0 0), (5, .own 4 0 m.length), (6, .pcell 1 0), (7, .pcell 2 0), (20, .il m), (21, .i m.length), (22, .i a.1)], fun a => [.vars [.i k], .vars [.i n], .vars [.own 3 0 n], .arr (.list (.int .i64)) a.2 true, .arr (.int .i64) (faces m) true], ⟨(0, List.replicate n []), (fitK [] [0, 2, 4, 3, 1]), by simp⟩, fun ⟨i, near⟩ ⟨hi, hnl, hrl, hc⟩ => ?_⟩
  dsimp only at hi hnl hrl hc ⊢
  refine stp ?_; try with_reducible exact True.intro
  refine Br.mk (fun h => ?_) (fun h => ?_) <;> simp [-Int.ofNat_toNat] at h
  · have hx : IntKind.wrap .i64 (BitVec.ofInt IntKind.i64.bits (i : Int) ^^^ BitVec.ofInt IntKind.i64.bits 1).toNat = mate i := xor1 i (by omega)
    have hmt := mate_in he h
    have f1 := faces_in h
    have f2 := faces_in (m := m) (i := (mate i).toNat) (by omega)
    rw [show (((mate i).toNat : Nat) : Int) = mate i by omega] at f2
    rw [hn] at f1 f2
    generalize hx' : mate i = mt at *
    have e1 : m.length - i = (m.length - (i + 1)) + 1 := by omega
    rw [e1, nearF] at hc
    refine stp ?_; try with_reducible exact True.intro
    rw [hx]
    have hr0 : ((mt.toNat : Nat) : Int) = mt := by omega
    have hr1 : (((i : Int).toNat : Nat) : Int) = i := by omega
    have hrow : (rdR near (rd (faces m) i)).length ≤ i := hrl _ (by simp [rdR, show (rd (faces m) i).toNat < near.length by omega])
    have hnext : ∀ r ∈ near.set (rd (faces m) i).toNat (rdR near (rd (faces m) i) ++ [rd (faces m) mt]), r.length ≤ i + 1 := fun r hr => by
      rcases List.mem_or_eq_of_mem_set hr with h1 | h1
      · exact Nat.le_succ_of_le (hrl r h1)
      · rw [h1]; simp; omega
    have hg : near.getD (rd (faces m) i).toNat [] = rdR near (rd (faces m) i) := by simp [rdR]
    refine stp ?_; try with_reducible exact True.intro
    simp only [hr0, hr1, rdT]
    refine Br.mk (fun h2 => ?_) (fun h2 => ?_) <;> simp [-Int.ofNat_toNat] at h2
    · rw [if_pos (by rw [hx']; exact h2)] at hc
      have hnone : colI m k = none := by
        unfold colI
        rw [hn, ← hc]
      rw [hnone]
      refine stp ?_; try with_reducible exact True.intro
      exact (fitK [] [])
    · rw [if_neg (by rw [hx']; exact h2)] at hc
      refine stp ?_; try with_reducible exact True.intro
      refine .inr ⟨rfl, by omega, ⟨fun he2 => ?_, ?_⟩⟩
      all_goals refine stp ?_; try with_reducible exact True.intro
      · intro _
        refine stp ?_; try with_reducible exact True.intro
        rw [← hg, he2, List.nil_append] at hnext hc
        rw [hx'] at hc
        refine ⟨(i + 1, near.set (rd (faces m) i).toNat [rd (faces m) mt]), (fitK [] [0, 1, 2, 3, 4]), ⟨h, by simpa using hnl, hnext, hc⟩, by dsimp only; omega⟩
      · simp only [hg]
        refine And.intro (by simp; omega) ?_
        refine stp ?_; try with_reducible exact True.intro
        refine ⟨(i + 1, near.set (rd (faces m) i).toNat (rdR near (rd (faces m) i) ++ [rd (faces m) mt])), (fitK [] [0, 1, 2, 3, 4]), ⟨h, by simpa using hnl, hnext, by rw [← hx']; exact hc⟩, by dsimp only; omega⟩
  · refine stp ?_; try with_reducible exact True.intro
    obtain rfl : i = m.length := Nat.le_antisymm hi h
    rw [Nat.sub_self, nearF] at hc
    have hcol : colI m k = optB (tryF near k n 0 (List.replicate n 0)) := by
      unfold colI
      rw [hn, ← hc]
    obtain ⟨n1, n2, n3⟩ := near_facts (m := m) (near := near) (by rw [hn]; exact hc.symm)
    rw [hn] at n1 n3
    have hrows : ∀ r ∈ near, r.length ≤ 24 ∧ ∀ b ∈ r, 0 ≤ b ∧ b < (n : Int) := fun r hr => by
      obtain ⟨a, ha⟩ := List.mem_iff_getElem?.1 hr
      have ha2 := (List.getElem?_eq_some_iff.1 ha).1
      have ha3 : rdR near a = r := by simp [rdR, ha]
      obtain ⟨q1, q2⟩ := n3 a (by omega) (by omega)
      rw [ha3] at q1 q2
      refine ⟨by omega, fun b hb => ?_⟩
      obtain ⟨d, d1, d2, d3⟩ := (q2 b).1 hb
      have hmt := mate_in he d1
      have f2 := faces_in (m := m) (i := (mate d).toNat) (by omega)
      rw [show (((mate d).toNat : Nat) : Int) = mate d by omega, hn] at f2
      rw [← d3]; exact f2
    have hcall := tryC near n k hcl hk hnl hrows _ (.inl rfl) n 0 (List.replicate n 0) (by omega) (by simp)
    rw [hcol]
    have hl := tryF_length near k n 0 (List.replicate n 0)
    rcases hx : tryF near k n 0 (List.replicate n 0) with ⟨b, out⟩
    rw [hx] at hcall hl
    simp only [List.length_replicate] at hl
    refine .inr ⟨[1, 0, 2, 6, 7, 3, 5], _, _, _, _, hcall, by decide, ⟨rfl, rfl, rfl, rfl, rfl, rfl, rfl, trivial⟩, rfl, .inr ⟨rfl, rfl⟩, ?_⟩
    refine stp ?_; try with_reducible exact True.intro
    cases b with
    | true =>
      refine stp ?_; try with_reducible exact True.intro
      rw [optB, resI, obI, hl]
      exact (fitK [] [5])
    | false =>
      refine stp ?_; try with_reducible exact True.intro
      exact (fitK [] [])
end Go.Proofs.YtffiddkignmobaaDoorTv
end
section
open Go Go.Proofs.YtffiddkignmobaaDoorVe Go.Proofs.YtffiddkignmobaaDoorTv Go.Proofs
namespace Go.Proofs.YtffiddkignmobaaDoorTv
set_option maxRecDepth 8000
set_option maxHeartbeats 2000000
def colO (m : List Int) (a : Int) : Option (List Int) := if isMap m = true ∧ 1 ≤ a ∧ a ≤ 7 then colT m a.toNat else none
theorem colT_length {m : List Int} {k : Nat} {r : List Int} (h : colT m k = some r) : r.length = (cyc (dualF m)).length := by
  have aux : ∀ (f : List Int) (n : Nat) (r : Nat) (cols res : List Int), nextF f k r cols = some res → res.length = cols.length + r := by
    intro f n r
    induction r with
    | zero =>
      intro cols res h
      simp only [nextF] at h
      split at h
      · injection h with h; rw [h]; simp
      · cases h
    | succ r ih =>
      intro cols res h
      simp only [nextF] at h
      split at h
      · have aux2 : ∀ (q c : Nat), firstT (fun c => nextF f k r (cols ++ [(c : Int)])) q c = some res → res.length = cols.length + (r + 1) := by
          intro q
          induction q with
          | zero => intro c h; cases h
          | succ q iq =>
            intro c h
            simp only [firstT] at h
            split at h
            · rename_i e
              injection h with h
              subst h
              have := ih _ _ e
              simp at this
              omega
            · exact iq _ h
        exact aux2 _ _ h
      · cases h
  have := aux _ 0 _ _ _ h
  simpa using this
def fewF (m : List Int) : Nat → Nat → Int
  | 0, _ => 0
  | j + 1, n => if (colT m n).isSome = true then n else fewF m j (n + 1)
def few (m : List Int) : Int := if isMap m = true then fewF m 7 1 else -1
theorem FewestColoursS (m : List Int) (hm : (m.length : Int) ≤ 1048576) : ConS Tryd.prog 47 [.il m] (.i (few m)) := by
  refine conS_of hmix hTab Tryd.func47 rfl rfl (by kernel_rfl) (by show 1 ≤ Tryd.f47.ntmps; decide) rfl ?_
  unfold few
  refine stp ?_; try with_reducible exact True.intro
  refine .inl ⟨_, _, _, (IsMapS m hm).toT, ⟨⟨_, rfl, rfl⟩, trivial⟩, ?_⟩
  refine stp ?_; try with_reducible exact True.intro
  refine Br.mk (fun h => ?_) (fun h => ?_)
  · rw [if_neg (by simp at h; simp [h])]
    refine stp ?_; try with_reducible exact True.intro
  · simp only [Bool.not_eq_eq_eq_not, Bool.not_false] at h
    obtain ⟨h1, h2, h3, h4⟩ := isMap_facts h
    rw [if_pos h]
    refine stp ?_; try with_reducible exact True.intro
    refine ⟨Nat, fun i => 1 ≤ i ∧ i ≤ 8 ∧ fewF m (8 - i) i = fewF m 7 1, fun i => 8 - i, fun i => [(0, .il m), (3, .i i)], fun i => [], ⟨1, ⟨.frz [], [], ⟨rfl, rfl, trivial⟩, trivial, by decide, rfl, rfl, rfl⟩, by simp⟩, fun i ⟨hi1, hi, hc⟩ => ?_⟩
    refine stp ?_; try with_reducible exact True.intro
    refine Br.mk (fun h5 => ?_) (fun h5 => ?_) <;> simp [-Int.ofNat_toNat] at h5
    · have e1 : 8 - i = (8 - (i + 1)) + 1 := by omega
      rw [e1, fewF] at hc
      have hcall := FirstColouringS m i hm
      rw [show (if isMap m = true ∧ 1 ≤ (i : Int) ∧ (i : Int) ≤ 7 then colT m (i : Int).toNat else none) = colT m i by rw [if_pos ⟨h, by omega, by omega⟩, Int.toNat_natCast]] at hcall
      refine stp ?_; try with_reducible exact True.intro
      cases hx : colT m i with
      | some res =>
        rw [hx] at hcall hc
        simp only [Option.isSome_some, if_true] at hc
        have hl := colT_length hx
        have hp := cyc_pos (m := dualF m) (by rw [dualF_length]; omega)
        refine .inl ⟨_, _, _, hcall, ⟨⟨_, rfl, rfl⟩, rfl, trivial⟩, ?_⟩
        refine stp ?_; try with_reducible exact True.intro
        refine Br.mk (fun h6 => ?_) (fun h6 => ?_)
        · refine stp ?_; try with_reducible exact True.intro
          rw [hc]
        · simp at h6
          rw [h6] at hl
          simp at hl
          omega
      | none =>
        rw [hx] at hcall hc
        simp only [Option.isSome_none, Bool.false_eq_true, if_false] at hc
        refine .inl ⟨_, _, _, hcall, ⟨⟨_, rfl, rfl⟩, rfl, trivial⟩, ?_⟩
        refine stp ?_; try with_reducible exact True.intro
        exact ⟨i + 1, ⟨.frz [], [], ⟨rfl, rfl, trivial⟩, trivial, by decide, rfl, rfl, rfl⟩, ⟨by omega, by omega, hc⟩, by dsimp only; omega⟩
    · refine stp ?_; try with_reducible exact True.intro
      obtain rfl : i = 8 := by omega
      rw [← hc]
      rfl
theorem FewestColoursI (m : List Int) (hm : (m.length : Int) ≤ 1048576) : ConS Tryd.prog 53 [.il m] (.i (few m)) := by
  refine conS_of hmix hTab Tryd.func53 rfl rfl (by kernel_rfl) (by show 1 ≤ Tryd.f53.ntmps; decide) rfl ?_
  unfold few
  refine stp ?_; try with_reducible exact True.intro
  refine .inl ⟨_, _, _, (IsMapI m hm).toT, ⟨⟨_, rfl, rfl⟩, trivial⟩, ?_⟩
  refine stp ?_; try with_reducible exact True.intro
  refine Br.mk (fun h => ?_) (fun h => ?_)
  · rw [if_neg (by simp at h; simp [h])]
    refine stp ?_; try with_reducible exact True.intro
  · simp only [Bool.not_eq_eq_eq_not, Bool.not_false] at h
    obtain ⟨h1, h2, h3, h4⟩ := isMap_facts h
    rw [if_pos h]
    refine stp ?_; try with_reducible exact True.intro
    refine ⟨Nat, fun i => 1 ≤ i ∧ i ≤ 8 ∧ fewF m (8 - i) i = fewF m 7 1, fun i => 8 - i, fun i => [(0, .il m), (3, .i i)], fun i => [], ⟨1, ⟨.frz [], [], ⟨rfl, rfl, trivial⟩, trivial, by decide, rfl, rfl, rfl⟩, by simp⟩, fun i ⟨hi1, hi, hc⟩ => ?_⟩
    refine stp ?_; try with_reducible exact True.intro
    refine Br.mk (fun h5 => ?_) (fun h5 => ?_) <;> simp [-Int.ofNat_toNat] at h5
    · have e1 : 8 - i = (8 - (i + 1)) + 1 := by omega
      rw [e1, fewF] at hc
      have hcall := colouring m i (by omega) h1 h3 h4
      rw [colI_colT h3] at hcall
      refine stp ?_; try with_reducible exact True.intro
      cases hx : colT m i with
      | some res =>
        rw [hx] at hcall hc
        simp only [Option.isSome_some, if_true] at hc
        refine .inl ⟨_, _, _, hcall, ⟨⟨_, rfl, rfl⟩, rfl, trivial⟩, ?_⟩
        refine stp ?_; try with_reducible exact True.intro
        rw [hc]
      | none =>
        rw [hx] at hcall hc
        simp only [Option.isSome_none, Bool.false_eq_true, if_false] at hc
        refine .inl ⟨_, _, _, hcall, ⟨⟨_, rfl, rfl⟩, rfl, trivial⟩, ?_⟩
        refine stp ?_; try with_reducible exact True.intro
        exact ⟨i + 1, ⟨.frz [], [], ⟨rfl, rfl, trivial⟩, trivial, by decide, rfl, rfl, rfl⟩, ⟨by omega, by omega, hc⟩, by dsimp only; omega⟩
    · refine stp ?_; try with_reducible exact True.intro
      obtain rfl : i = 8 := by omega
      rw [← hc]
      rfl
end Go.Proofs.YtffiddkignmobaaDoorTv
end
section
open Go Go.Proofs.YtffiddkignmobaaDoorVe Go.Proofs.YtffiddkignmobaaDoorTv Go.Proofs
namespace Go.Proofs.YtffiddkignmobaaDoorTv
set_option maxRecDepth 8000
set_option maxHeartbeats 2000000
theorem drop_consR {l : List (List Int)} {i : Nat} (h : i < l.length) : l.drop i = rdR l i :: l.drop (i + 1) := by
  rw [List.drop_eq_getElem_cons h]
  simp [rdR, h]
theorem eqIntSS (l m : List (List Int)) (hl : (l.length : Int) ≤ 274877906944) (hr : ∀ r ∈ l, (r.length : Int) ≤ 274877906944) : ConS Tryd.prog 22 [.ill l, .ill m] (.b (decide (l = m))) := by
  refine conS_of hmix hTab Tryd.func22 rfl rfl (by kernel_rfl) (by show 2 ≤ Tryd.f22.ntmps; decide) rfl ?_
  refine stp ?_; try with_reducible exact True.intro
  refine Br.mk (fun h => ?_) (fun h => ?_) <;> simp at h
  · refine stp ?_; try with_reducible exact True.intro
    have : l ≠ m := fun e => h (by rw [e])
    simp [this]
  · refine stp ?_; try with_reducible exact True.intro
    refine ⟨Nat, fun i => i ≤ l.length ∧ ∀ k, k < i → rdR l k = rdR m k, fun i => l.length - i, fun i => [(0, .ill l), (1, .ill m), (5, .i i)], fun i => [], ⟨0, (fitK [] []), by simp⟩, fun i ⟨hi, hk⟩ => ?_⟩
    dsimp only at hi hk ⊢
    refine stp ?_; try with_reducible exact True.intro
    refine Br.mk (fun h1 => ?_) (fun h1 => ?_) <;> simp [-Int.ofNat_toNat] at h1
    · have hmem : rdR l i ∈ l := by simp [rdR, h1]
      refine stp ?_; try with_reducible exact True.intro
      refine useT ((eqIntS (rdR l i) (rdR m i) (hr _ hmem)).toT) ?_; try with_reducible exact True.intro
      refine Br.mk (fun h2 => ?_) (fun h2 => ?_) <;> simp at h2
      · refine stp ?_; try with_reducible exact True.intro
        have : l ≠ m := fun e => h2 (by rw [e])
        simp [this]
      · refine stp ?_; try with_reducible exact True.intro
        refine ⟨i + 1, (fitK [] []), ⟨h1, fun k hk1 => ?_⟩, by first | ((try dsimp only); omega) | (simp; omega)⟩
        by_cases e : k = i
        · rw [e]; exact h2
        · exact hk k (by omega)
    · refine stp ?_; try with_reducible exact True.intro
      have : l = m := by
        refine List.ext_getElem (by omega) fun k h2 h3 => ?_
        have := hk k (by omega)
        simpa [rdR, h2, h3] using this
      simp [this]
def total : List (List Int) → Int
  | [] => 0
  | r :: rs => r.length + total rs
/-- n, n + 1, .. through all rows. -/
def marksR (n : Int) : List (List Int) → List (List Int)
  | [] => []
  | r :: rs => marks n r.length :: marksR (n + r.length) rs
@[simp] theorem marksR_length : ∀ (n : Int) (ll : List (List Int)), (marksR n ll).length = ll.length
  | _, [] => rfl
  | n, r :: rs => by simp [marksR, marksR_length]
theorem total_nonneg : ∀ ll, 0 ≤ total ll
  | [] => by simp [total]
  | r :: rs => by have := total_nonneg rs; simp only [total]; omega
theorem total_append : ∀ (l m : List (List Int)), total (l ++ m) = total l + total m
  | [], m => by simp [total]
  | r :: l, m => by simp only [List.cons_append, total, total_append l m]; omega
theorem marksR_append : ∀ (n : Int) (l m : List (List Int)), marksR n (l ++ m) = marksR n l ++ marksR (n + total l) m
  | n, [], m => by simp [marksR, total]
  | n, r :: l, m => by
    simp only [List.cons_append, marksR, marksR_append _ l m, total]
    rw [show n + (r.length : Int) + total l = n + ((r.length : Int) + total l) by omega]
theorem take_succR {l : List (List Int)} {i : Nat} (h : i < l.length) : l.take (i + 1) = l.take i ++ [rdR l i] := by
  rw [List.take_add_one]
  simp [rdR, h]
theorem total_le {ll : List (List Int)} {c : Nat} (h : ∀ r ∈ ll, r.length ≤ c) : total ll ≤ ll.length * c := by
  induction ll with
  | nil => simp [total]
  | cons r ll ih =>
    have h1 := ih fun x hx => h x (by simp [hx])
    have h2 := h r (by simp)
    simp only [total, List.length_cons, Nat.succ_mul, Int.natCast_add, Int.natCast_one, Int.add_mul]
    omega
theorem row_le_total : ∀ {ll : List (List Int)} {r : List Int}, r ∈ ll → (r.length : Int) ≤ total ll
  | q :: ll, r, h => by
    have := total_nonneg ll
    rcases List.mem_cons.1 h with rfl | h
    · simp only [total]; omega
    · have := row_le_total h
      simp only [total]; omega
end Go.Proofs.YtffiddkignmobaaDoorTv
end
section
open Go Go.Proofs.YtffiddkignmobaaDoorVe Go.Proofs.YtffiddkignmobaaDoorTv Go.Proofs
namespace Go.Proofs.YtffiddkignmobaaDoorTv
set_option maxRecDepth 8000
set_option maxHeartbeats 2000000
theorem rd_own (l : List Int) (x : Int) : rd l ((x.toNat : Nat) : Int) = rd l x := rfl
def szS (l : List Int) (left : Int) : Int := if left - l.length < 0 then -1 else left - l.length
theorem szIntS (l : List Int) (left : Int) (h : 0 ≤ left ∧ left ≤ 1048576) (hl : (l.length : Int) ≤ 140737488355328) : ConS Tryd.prog 70 [.il l, .i left] (.i (szS l left)) := by
  refine conS_of hmix hTab Tryd.func70 rfl rfl (by kernel_rfl) (by show 2 ≤ Tryd.f70.ntmps; decide) rfl ?_
  unfold szS
  refine stp ?_; try with_reducible exact True.intro
  refine Br.mk (fun h => ?_) (fun h => ?_) <;> simp [-Int.ofNat_toNat] at h
  · refine stp ?_; try with_reducible exact True.intro
    rw [if_pos h]
  · refine stp ?_; try with_reducible exact True.intro
    rw [if_neg (by omega)]
def szR : List (List Int) → Int → Int
  | [], left => left
  | r :: rs, left => if szS r left < 0 then -1 else szR rs (szS r left)
def szSS (ll : List (List Int)) (left : Int) : Int := if left - ll.length < 0 then -1 else szR ll (left - ll.length)
theorem szIntSS (ll : List (List Int)) (left : Int) (h : 0 ≤ left ∧ left ≤ 1048576) (hl : (ll.length : Int) ≤ 140737488355328) (hr : ∀ r ∈ ll, (r.length : Int) ≤ 140737488355328) : ConS Tryd.prog 18 [.ill ll, .i left] (.i (szSS ll left)) := by
  refine conS_of hmix hTab Tryd.func18 rfl rfl (by kernel_rfl) (by show 2 ≤ Tryd.f18.ntmps; decide) rfl ?_
  unfold szSS
  refine stp ?_; try with_reducible exact True.intro
  refine Br.mk (fun h1 => ?_) (fun h1 => ?_) <;> simp [-Int.ofNat_toNat] at h1
  · refine stp ?_; try with_reducible exact True.intro
    rw [if_pos h1]
  · rw [if_neg (by omega)]
    refine stp ?_; try with_reducible exact True.intro
    refine ⟨Nat × Int, fun a => a.1 ≤ ll.length ∧ 0 ≤ a.2 ∧ a.2 ≤ 1048576 ∧ szR (ll.drop a.1) a.2 = szR ll (left - ll.length), fun a => ll.length - a.1, fun a => [(0, .ill ll), (1, .i a.2), (5, .i a.1)], fun a => [], ⟨(0, left - ll.length), (fitK [] []), by simp; omega⟩, fun ⟨i, lf⟩ ⟨hi, h0, h2, hc⟩ => ?_⟩
    dsimp only at hi h0 h2 hc ⊢
    refine stp ?_; try with_reducible exact True.intro
    refine Br.mk (fun h3 => ?_) (fun h3 => ?_) <;> simp [-Int.ofNat_toNat] at h3
    · have hmem : rdR ll i ∈ ll := by simp [rdR, h3]
      rw [drop_consR h3, szR] at hc
      refine stp ?_; try with_reducible exact True.intro
      refine useT ((szIntS (rdR ll i) lf ⟨h0, h2⟩ (hr _ hmem)).toT) ?_; try with_reducible exact True.intro
      refine Br.mk (fun h4 => ?_) (fun h4 => ?_) <;> simp [-Int.ofNat_toNat] at h4
      · rw [if_pos h4] at hc
        refine stp ?_; try with_reducible exact True.intro
        rw [← hc]
      · rw [if_neg (by omega)] at hc
        refine stp ?_; try with_reducible exact True.intro
        refine ⟨(i + 1, szS (rdR ll i) lf), (fitK [] []), ⟨h3, h4, ?_, hc⟩, by first | ((try dsimp only); omega) | (simp; omega)⟩
        dsimp only
        unfold szS
        split <;> omega
    · refine stp ?_; try with_reducible exact True.intro
      obtain rfl : i = ll.length := by omega
      simp [szR] at hc
      rw [← hc]
theorem szSS_facts {ll : List (List Int)} {left : Int} (hb : left ≤ 1048576) (h : 0 ≤ szSS ll left) : (ll.length : Int) ≤ 1048576 ∧ ∀ r ∈ ll, (r.length : Int) ≤ 1048576 := by
  unfold szSS at h
  split at h
  · omega
  · rename_i h1
    refine ⟨by omega, ?_⟩
    have : ∀ (l : List (List Int)) (lf : Int), 0 ≤ lf → lf ≤ 1048576 → 0 ≤ szR l lf → ∀ r ∈ l, (r.length : Int) ≤ 1048576 := by
      intro l
      induction l with
      | nil => simp
      | cons r l ih =>
        intro lf h0 h1 h2 x hx
        unfold szR at h2
        split at h2
        · omega
        · rename_i h3
          have h4 : szS r lf = lf - r.length := by
            unfold szS at h3 ⊢
            split
            · rename_i h5; simp [h5] at h3
            · rfl
          rcases List.mem_cons.1 hx with rfl | hx
          · omega
          · exact ih _ (by omega) (by omega) h2 x hx
    exact this ll _ (by omega) (by omega) h
theorem szSS_le {ll : List (List Int)} {left : Int} (hb : left ≤ 1048576) : szSS ll left ≤ 1048576 := by
  unfold szSS
  split
  · omega
  · have : ∀ (l : List (List Int)) (lf : Int), lf ≤ 1048576 → szR l lf ≤ 1048576 := by
      intro l
      induction l with
      | nil => exact fun lf h => h
      | cons r l ih =>
        intro lf h
        unfold szR
        split
        · omega
        · refine ih _ ?_
          unfold szS
          split <;> omega
    exact this _ _ (by omega)
theorem toIntSS (ll : List (List Int)) (hl : (ll.length : Int) ≤ 1048576) (hr : ∀ r ∈ ll, (r.length : Int) ≤ 1048576) : ConT Tryd.prog 20 [.ill ll] (.own 0 0 ll.length) [.arr (.list (.int .i64)) ll true] := by
  refine conT_of hmix hTab Tryd.func20 rfl rfl (by kernel_rfl) (by show 1 ≤ Tryd.f20.ntmps; decide) ?_
  refine stp ?_; try with_reducible exact True.intro
  refine ⟨Nat, fun i => i ≤ ll.length, fun i => ll.length - i, fun i => [(0, .ill ll), (3, .own 0 0 ll.length), (4, .i i)], fun i => [.arr (.list (.int .i64)) (ll.take i ++ List.replicate (ll.length - i) []) true], ⟨0, (fitK [] [0]), Nat.zero_le _⟩, fun i hi => ?_⟩
  dsimp only at hi
  refine stp ?_; try with_reducible exact True.intro
  refine Br.mk (fun h => ?_) (fun h => ?_) <;> simp [-Int.ofNat_toNat] at h
  · have hmem : rdR ll i ∈ ll := by simp [rdR, h]
    refine stp ?_; try with_reducible exact True.intro
    refine useT (toIntS (rdR ll i) (hr _ hmem)) ?_; try with_reducible exact True.intro
    refine ⟨_, _, _, _, rfl, rfl, rfl, by decide, rfl, by first | omega | (simp; done) | (simp; omega), ?_⟩; refine stp ?_; try with_reducible exact True.intro
    refine ⟨i + 1, ⟨.frz [], [0], by repeat (first | exact trivial | refine ⟨by first | rfl | (simp [Obj.ren, frzI, -Int.ofNat_toNat]; done) | (simp [Obj.ren, frzI, V.ren, V.rens, V.cells, EnvV.ev, EnvV.upd, mkE, backL, backN, -Int.ofNat_toNat]; done) | (simp [Obj.ren, frzI, -Int.ofNat_toNat]; omega), ?_⟩), ⟨?_, trivial⟩, by decide, rfl, rfl, rfl⟩, h, by first | ((try dsimp only); omega) | (simp; omega)⟩
    refine congrArg (fun x => some (Obj.arr (.list (.int .i64)) x true)) ?_
    have h2 : ll[i]? = some (rdR ll i) := by simp [rdR, h]
    have := fill_step id ll ([] : List Int) rfl h2
    simpa using this
  · refine stp ?_; try with_reducible exact True.intro
    obtain rfl : i = ll.length := Nat.le_antisymm hi h
    exact (fitK [] [0])
end Go.Proofs.YtffiddkignmobaaDoorTv
end
